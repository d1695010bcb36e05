/- term.Read: a row of texts read by a reader. -/
import Derived.Test.YtnjpoamebkehbaaTakeF
import Derived.Test.YtnjpoamebkehbaaTermR
namespace Go.Proofs.Ytnjpoamebkehbaa
open Go.RowKit
set_option linter.unusedVariables false
set_option linter.unusedSimpArgs false

/-- Append onto a row of the call's own, whatever else has turned. -/
theorem wpList_append0 {P : Program} {w : World} {ops : Array Oper} {rest : List Oper} {o : Oper} {a : Act} {Q : Exit → Act → World → Prop} (hgd : o.guard = none) (s x : Operand) (t : TypeId)
    (ho : o.op = .call { callee := .builtin .append, args := #[s, x], argTypes := #[t, t] })
    {e : TypeId} {size bytes : Nat} (E : ElemInfo P t e size bytes) (base : Nat) (hB : base ≤ w.heap.size)
    (v : Value) (n : Nat) (xs : List Value) (hs : a.eval s = v) (hown : w.ownsRow base e size v n xs)
    (A : Option Addr) (m c : Nat) (news : List Value) (hx : a.eval x = .slice A m c) (hr : Rd w size A m news) (h1 : ∀ u ∈ news, u.oneCell' = true)
    (h63 : n + m ≤ maxLen) (hbytes : (n + m) * bytes ≤ 140737488355328)
    (h : ∀ v' w', w'.ownsRow base e size v' (n + m) (xs ++ news) → w.grownBy w' v.ownBlock → (v'.ownBlock = v.ownBlock ∨ v'.ownBlock = some w.heap.size) → wpList P ops Q rest (a.put o.dst v') w') : wpList P ops Q (o :: rest) a w := by
  obtain ⟨i, z, hi, hz, hsz, hby, hzs⟩ := E.hi
  exact wpList_plain hgd fun _ hK => wp_append_any w s x t ho base e i z size bytes E.ht hi hz hsz hby hzs E.pos v n xs hs hown w.heap.size A m c news hx hr h1 h63 hbytes hB fun v' w' h2 h3 h4 => hK _ _ (h v' w' h2 h3 h4)

/-- One text more behind another one; and so many. -/
def tround (was l : List UInt8) : PR (List UInt8) :=
  match pnum was.length l with
  | .error k => .error k
  | .ok (k, r) =>
    match ptxt 16 r with
    | .error e => .error e
    | .ok (x, r2) => if isTerm (was.take k ++ x) && (alike was (was.take k ++ x) == k) && Op.bytesLess was (was.take k ++ x) then .ok (was.take k ++ x, r2) else .error 3
def treads : List UInt8 → Nat → List UInt8 → PR (List (List UInt8))
  | _, 0, l => .ok ([], l)
  | was, n + 1, l =>
    match tround was l with
    | .error e => .error e
    | .ok (s, r) =>
      match treads s n r with
      | .error e => .error e
      | .ok (ts, r2) => .ok (s :: ts, r2)
def tread (most : Int) (l : List UInt8) : PR (List (List UInt8)) :=
  match pnum most l with
  | .error k => .error k
  | .ok (n, r) => treads [] n r
/-- Texts read, ahead of others. -/
def ahead (ds : List (List UInt8)) (o : PR (List (List UInt8))) : PR (List (List UInt8)) :=
  match o with
  | .error e => .error e
  | .ok (ts, r) => .ok (ds ++ ts, r)
theorem ahead_nil (o : PR (List (List UInt8))) : ahead [] o = o := by
  rcases o with e | ⟨ts, r⟩ <;> rfl
theorem ahead_step {ds : List (List UInt8)} {was l s r : List UInt8} {n : Nat} (h : tround was l = .ok (s, r)) : ahead ds (treads was (n + 1) l) = ahead (ds ++ [s]) (treads s n r) := by
  simp only [treads, h]
  rcases treads s n r with e | ⟨ts, r2⟩
  · rfl
  · simp [ahead]
theorem ahead_err {ds : List (List UInt8)} {was l : List UInt8} {n : Nat} {e : Int} (h : tround was l = .error e) : ahead ds (treads was (n + 1) l) = .error e := by
  simp only [treads, h]
  rfl

theorem pnum_lt {most : Int} {l r : List UInt8} {n : Nat} (h : pnum most l = .ok (n, r)) : r.length + 1 ≤ l.length := by
  have h1 := ntake_size l
  rcases pnum_cases (most := most) (l := l) with ⟨e, _⟩ | ⟨n', z, hn, hz, _, ⟨e, _⟩ | ⟨e, h2, h3⟩⟩
  · rw [h] at e; cases e
  · rw [h] at e; cases e
  · rw [h] at e
    injection e with e
    injection e with e1 e2
    subst e2
    rw [hn] at h1
    have := h1.2.2 rfl
    simp only [List.length_drop] at *
    omega
theorem ptxt_ok {most : Int} {l x r : List UInt8} (h : ptxt most l = .ok (x, r)) : (x.length : Int) ≤ most ∧ r.length ≤ l.length := by
  unfold ptxt at h
  split at h
  · cases h
  · rename_i n r1 hp
    obtain ⟨_, h1, h2⟩ := pnum_ok hp
    unfold pfix at h
    split at h
    · cases h
    · injection h with h
      injection h with e1 e2
      subst e1
      subst e2
      simp only [List.length_take, List.length_drop]
      omega

theorem gt_less (q t : List UInt8) : (!Op.bytesLess t q && !(t == q)) = Op.bytesLess q t := by
  rw [← Bool.not_or, less_le, Bool.not_not]
theorem E_text : ElemInfo Try.prog 27 9 1 16 := ElemInfo.mk' (z := .string ⟨#[]⟩) Try.underlying27 (by kernel_rfl) rfl (by omega)

/-- Texts in new memory, read by a reader whose block alone of the old ones has turned. -/
structure TxRd (w : World) (b : Nat) (s l : List UInt8) (v : Value) (ts : List (List UInt8)) (w' : World) : Prop where
  g : w.grownBy w' (some b)
  r : Rdr w' b s l
  own : w'.ownsRow w.heap.size 9 1 v ts.length (ts.map tx)
theorem TxRd.read {w w1 w2 : World} {b : Nat} {s l l' : List UInt8} {v : Value} {ts : List (List UInt8)} (h : TxRd w b s l v ts w1) (hb : b < w.heap.size) (hg : w1.grownBy w2 (some b)) (hr : Rdr w2 b s l') : TxRd w b s l' v ts w2 :=
  ⟨h.g.trans hg, hr, h.own.kept hg (by
    rcases ho : v.ownBlock with _ | k
    · exact .inl rfl
    · refine .inr fun e => ?_
      injection e with e
      have := (h.own.lt k ho).1
      omega)⟩
theorem TxRd.more {w w1 w2 : World} {b : Nat} {s l : List UInt8} {v : Value} {ts : List (List UInt8)} (h : TxRd w b s l v ts w1) (hb : Bel w1 w2) : TxRd w b s l v ts w2 :=
  ⟨h.g.trans (grown_of_bel hb _), h.r.bel hb, own_bel h.own hb⟩
theorem TxRd.app {w w1 w2 : World} {b : Nat} {s l x : List UInt8} {v v' : Value} {ts : List (List UInt8)} (h : TxRd w b s l v ts w1) (hb : b < w.heap.size) (ho : w2.ownsRow w.heap.size 9 1 v' (ts.length + 1) (ts.map tx ++ [tx x])) (hg : w1.grownBy w2 v.ownBlock) : TxRd w b s l v' (ts ++ [x]) w2 :=
  ⟨h.g.andThen hg (fun j e => .inl (h.own.lt j e).1), h.r.grown hg (fun e => by have := (h.own.lt b e.symm).1; omega), by simpa using ho⟩

/-- How term.Read ends. -/
def TPost (b : Nat) (s : List UInt8) (o : PR (List (List UInt8))) (w : World) (e : Ending) (w' : World) : Prop :=
  match o with
  | .error k => RErr b s k w e w'
  | .ok (ts, l) => ∃ v, e = .returned v ∧ TxRd w b s l v ts w'

set_option maxRecDepth 100000 in
set_option maxHeartbeats 1000000 in
theorem tread_any (b : Nat) (s l : List UInt8) (most : Int) (w : World) (hR : Rdr w b s l) (m0 : -9223372036854775808 ≤ most) (m1 : most ≤ 9223372036854775807) :
    Calls Try.prog 102 #[.pointer (some ⟨b, 0, none⟩), .int .i64 most] w (TPost b s (tread most l) w) := by
  have hb := hR.lt
  have hlen := hR.len
  have HN := Lib.hid (num_any b s l most w hR m0 m1)
  have HR := Lib.hid hR
  clear hR
  go_enter Try.func102, Try.ntmps102
  go_wp2_with fail
  cases hp : pnum most l with
  | error k =>
    have HE : Hid (tread most l = .error k) := by show _ = _; unfold tread; rw [hp]
    rw [hp] at HN
    refine HN.out.mono ?_; rintro e w1 ⟨rfl, hg, hr⟩
    clear hp
    go_wp2
    refine ⟨rfl, ?_⟩
    rw [HE.out]
    exact ⟨rfl, hg, hr⟩
  | ok q =>
    obtain ⟨n, r⟩ := q
    have HE : Hid (tread most l = ahead [] (treads [] n r)) := by show _ = _; rw [ahead_nil]; unfold tread; rw [hp]
    obtain ⟨hq0, hq1, hq2⟩ := pnum_ok hp
    rw [hp] at HN
    refine HN.out.mono ?_; rintro e w1 ⟨rfl, hg, hr⟩
    have H1 : Hid (TxRd w b s r (.slice none 0 0) [] w1) := ⟨hg, hr, ⟨rfl, .inl ⟨rfl, rfl⟩⟩⟩
    clear hp hg hr HN
    go_wp2
    go_loopg [5, 6, 12] n (fun g s5 s6 i wr => ∃ (k : Nat) (ds : List (List UInt8)) (was lr : List UInt8), g = n - k ∧ k ≤ n ∧ i = .int .i64 k ∧ s6 = .string ⟨was.toArray⟩ ∧ was.length ≤ 16 ∧ Hid (ds.length = k) ∧ k + lr.length ≤ 1000001 ∧ Hid (TxRd w b s lr s5 ds wr) ∧ Hid (tread most l = ahead ds (treads was (n - k) lr)))
    case atStart => exact ⟨0, [], [], r, rfl, by omega, rfl, rfl, by simp, rfl, by omega, H1, HE⟩
    case round =>
      obtain ⟨k, ds, was, lr, hgk, hk, rfl, rfl, hwas, hdk, hkl, H, hE⟩ := hrel
      have Hgk := Lib.hid hgk
      clear hgk HE H1
      by_cases hlt : k < n
      · have HM := Lib.hid (fun w (hr : Rdr w b s lr) => num_any b s lr (was.length : Int) w hr (by omega) (by omega))
        go_wp2_with fail
        cases hp : pnum was.length lr with
        | error e =>
          have HE : Hid (tread most l = .error e) := by show _ = _; rw [hE.out, show n - k = (n - k - 1) + 1 by omega]; exact ahead_err (by unfold tround; rw [hp])
          rw [hp] at HM
          refine (HM.out _ H.out.r).mono ?_; rintro e' w2 ⟨rfl, hg2, hr2⟩
          clear hp
          go_wp2_with fail
          refine ⟨rfl, ?_⟩
          rw [HE.out]
          exact ⟨rfl, H.out.g.trans hg2, hr2⟩
        | ok q =>
          obtain ⟨m, r1⟩ := q
          obtain ⟨_, hm1, hm2⟩ := pnum_ok hp
          have hm3 := pnum_lt hp
          have Hp := Lib.hid hp
          rw [hp] at HM
          refine (HM.out _ H.out.r).mono ?_; rintro e' w2 ⟨rfl, hg2, hr2⟩
          have H2 := Lib.hid (H.out.read hb hg2 hr2)
          clear hp hg2 hr2 HM H
          have km : (0 : Int) ≤ m := by omega
          have kn : (m : Int) ≤ was.length := hm1
          go_wp2_with fail
          -- REGION
          have HT := Lib.hid (fun w (hr : Rdr w b s r1) => text_any b s r1 16 w hr (by omega) (by omega))
          cases hx : ptxt 16 r1 with
          | error e =>
            have HE : Hid (tread most l = .error e) := by show _ = _; rw [hE.out, show n - k = (n - k - 1) + 1 by omega]; exact ahead_err (by unfold tround; rw [Hp.out]; show (match ptxt 16 r1 with | .error e => _ | .ok (x, r2) => _) = _; rw [hx])
            rw [hx] at HT
            clear hx
            refine wp_region_held_drew (S := fun _ => True) (by kernel_rfl) ?_ (fun hHeld => ?_)
            · (try dsimp only); try trivial
            refine wpAnyH_take (i := 0) (v := ?v0) (get_o0) (by kernel_rfl) (by kernel_rfl) (by kernel_rfl) (by exact fun _ _ _ h => h) (Or.inl ⟨by rfl, ?hy0⟩) (by assumption) ?_
            case hy0 => (intro w hSw; (try dsimp only at hSw); go_simp) <;> with_reducible rfl
            try simp only [Act.put, List.setIfInBounds_toArray, List.set_cons_zero, List.set_cons_succ]
            refine wpAnyH_take (i := 1) (v := ?v1) (get_os (get_o0)) (by kernel_rfl) (by kernel_rfl) (by kernel_rfl) (by exact fun _ _ _ h => h) (Or.inl ⟨by rfl, ?hy1⟩) (by assumption) ?_
            case hy1 => (intro w hSw; (try dsimp only at hSw); go_simp) <;> with_reducible rfl
            try simp only [Act.put, List.setIfInBounds_toArray, List.set_cons_zero, List.set_cons_succ]
            refine wpAnyH_take (i := 2) (v := ?v2) (get_os (get_os (get_o0))) (by kernel_rfl) (by kernel_rfl) (by kernel_rfl) (by exact fun _ _ _ h => h) (Or.inl ⟨by rfl, ?hy2⟩) (by assumption) ?_
            case hy2 => (intro w hSw; (try dsimp only at hSw); go_simp) <;> with_reducible rfl
            try simp only [Act.put, List.setIfInBounds_toArray, List.set_cons_zero, List.set_cons_succ]
            refine wpAnyH_take (i := 3) (v := ?v3) (get_os (get_os (get_os (get_o0)))) (by kernel_rfl) (by kernel_rfl) (by kernel_rfl) (by exact fun _ _ _ h => h) (Or.inl ⟨by rfl, ?hy3⟩) (by assumption) ?_
            case hy3 => (intro w hSw; (try dsimp only at hSw); go_simp) <;> with_reducible rfl
            try simp only [Act.put, List.setIfInBounds_toArray, List.set_cons_zero, List.set_cons_succ]
            refine wpAnyH_ready (rs := [4]) (by kernel_rfl) (by simp) ?_
            refine AllReadyH.cons (get_os (get_os (get_os (get_os (get_o0))))) (fun KK hKK => ?_) AllReadyH.nil
            go_simp
            refine (HT.out _ (H2.out.more (Bel.refl _).drew).r).mono ?_; rintro e' w3 ⟨rfl, hg3, hr3⟩
            refine ⟨rfl, ?_⟩
            rw [HE.out]
            exact ⟨rfl, (H2.out.more (Bel.refl _).drew).g.trans hg3, hr3⟩
          | ok q =>
            obtain ⟨x, r2⟩ := q
            obtain ⟨hx1, hx2⟩ := ptxt_ok hx
            have Hx := Lib.hid hx
            rw [hx] at HT
            clear hx
            refine wp_region_held_drew (S := fun _ => True) (by kernel_rfl) ?_ (fun hHeld => ?_)
            · (try dsimp only); try trivial
            refine wpAnyH_take (i := 0) (v := ?v0) (get_o0) (by kernel_rfl) (by kernel_rfl) (by kernel_rfl) (by exact fun _ _ _ h => h) (Or.inl ⟨by rfl, ?hy0⟩) (by assumption) ?_
            case hy0 => (intro w hSw; (try dsimp only at hSw); go_simp) <;> with_reducible rfl
            try simp only [Act.put, List.setIfInBounds_toArray, List.set_cons_zero, List.set_cons_succ]
            refine wpAnyH_take (i := 1) (v := ?v1) (get_os (get_o0)) (by kernel_rfl) (by kernel_rfl) (by kernel_rfl) (by exact fun _ _ _ h => h) (Or.inl ⟨by rfl, ?hy1⟩) (by assumption) ?_
            case hy1 => (intro w hSw; (try dsimp only at hSw); go_simp) <;> with_reducible rfl
            try simp only [Act.put, List.setIfInBounds_toArray, List.set_cons_zero, List.set_cons_succ]
            refine wpAnyH_take (i := 2) (v := ?v2) (get_os (get_os (get_o0))) (by kernel_rfl) (by kernel_rfl) (by kernel_rfl) (by exact fun _ _ _ h => h) (Or.inl ⟨by rfl, ?hy2⟩) (by assumption) ?_
            case hy2 => (intro w hSw; (try dsimp only at hSw); go_simp) <;> with_reducible rfl
            try simp only [Act.put, List.setIfInBounds_toArray, List.set_cons_zero, List.set_cons_succ]
            refine wpAnyH_take (i := 3) (v := ?v3) (get_os (get_os (get_os (get_o0)))) (by kernel_rfl) (by kernel_rfl) (by kernel_rfl) (by exact fun _ _ _ h => h) (Or.inl ⟨by rfl, ?hy3⟩) (by assumption) ?_
            case hy3 => (intro w hSw; (try dsimp only at hSw); go_simp) <;> with_reducible rfl
            try simp only [Act.put, List.setIfInBounds_toArray, List.set_cons_zero, List.set_cons_succ]
            refine wpAnyH_ready (rs := [4]) (by kernel_rfl) (by simp) ?_
            refine AllReadyH.cons (get_os (get_os (get_os (get_os (get_o0))))) (fun KK hKK => ?_) AllReadyH.nil
            go_simp
            refine (HT.out _ (H2.out.more (Bel.refl _).drew).r).mono ?_; rintro e' w3 ⟨rfl, hg3, hr3⟩
            have H3 := Lib.hid ((H2.out.more (Bel.refl _).drew).read hb hg3 hr3)
            clear hg3 hr3 HT
            refine hKK.out _ _ ?_ (fun hHeld => ?_)
            · (try dsimp only); try trivial
            clear hKK KK
            try simp only [Act.put, List.setIfInBounds_toArray, List.set_cons_zero, List.set_cons_succ]
            refine wpAnyH_ready (rs := [5]) (by kernel_rfl) (by simp) ?_
            refine AllReadyH.cons (get_os (get_os (get_os (get_os (get_os (get_o0)))))) (fun KK hKK => ?_) AllReadyH.nil
            go_simp
            try go_wp2_with fail
            refine hKK.out _ _ ?_ (fun hHeld => ?_)
            · (try dsimp only); try trivial
            clear hKK KK
            try simp only [Act.put, List.setIfInBounds_toArray, List.set_cons_zero, List.set_cons_succ]
            refine wpAnyH_ready (rs := [6]) (by kernel_rfl) (by simp) ?_
            refine AllReadyH.cons (get_os (get_os (get_os (get_os (get_os (get_os (get_o0))))))) (fun KK hKK => ?_) AllReadyH.nil
            go_simp
            try go_wp2_with fail
            refine hKK.out _ _ ?_ (fun hHeld => ?_)
            · (try dsimp only); try trivial
            clear hKK KK
            try simp only [Act.put, List.setIfInBounds_toArray, List.set_cons_zero, List.set_cons_succ]
            refine wpAnyH_done (by kernel_rfl) ?_ _
            simp only [str_upto, str_append]
            clear hHeld
            have hzl : (was.take m ++ x).length ≤ 32 := by simp; omega
            have hzt : isTerm (was.take m ++ x) = true → (was.take m ++ x).length ≤ 16 := by unfold isTerm; simp
            have HE : Hid (tround was lr = if isTerm (was.take m ++ x) && (alike was (was.take m ++ x) == m) && Op.bytesLess was (was.take m ++ x) then .ok (was.take m ++ x, r2) else .error 3) := by
              show _ = _
              unfold tround
              rw [Hp.out]
              show (match ptxt 16 r1 with | .error e => _ | .ok (x, r2) => _) = _
              rw [Hx.out]
            generalize was.take m ++ x = z at *
            have hal := (alike_le was z).1
            have no : tround was lr = .error 3 → tread most l = .error 3 := fun h => by rw [hE.out, show n - k = (n - k - 1) + 1 by omega]; exact ahead_err h
            have NO := Lib.hid no
            clear no
            cases hT : isTerm z with
            | false =>
              have HN := Lib.hid (NO.out (by rw [HE.out, hT]; rfl))
              clear NO HE hE
              go_wp2_with fail
              refine (check_any z _ (by omega)).mono ?_; rintro e' w4 ⟨rfl, rfl⟩
              rw [hT]
              go_wp2_with fail
              refine (want_no b s r2 3 _ H3.out.r).mono ?_; rintro e' w4 ⟨rfl, rfl⟩
              go_wp2_with fail
              refine ⟨rfl, ?_⟩
              rw [HN.out]
              exact ⟨rfl, H3.out.g, _, H3.out.r⟩
            | true =>
              have hz16 := hzt hT
              by_cases hA : alike was z = m
              · cases hL : Op.bytesLess was z with
                | false =>
                  have HN := Lib.hid (NO.out (by rw [HE.out, hT, hA, hL]; simp))
                  have HA := Lib.hid hA
                  clear NO HE hE hA
                  go_wp2_with fail
                  refine (check_any z _ (by omega)).mono ?_; rintro e' w4 ⟨rfl, rfl⟩
                  rw [hT]
                  go_wp2_with fail
                  refine (shared_any was z _ (by omega) (by omega)).mono ?_; rintro e' w4 ⟨rfl, hb4⟩
                  rw [HA.out]
                  have H4 := Lib.hid (H3.out.more hb4)
                  clear hb4 H3
                  go_wp2_with fail
                  rw [gt_less, hL]
                  refine (want_no b s r2 3 _ H4.out.r).mono ?_; rintro e' w5 ⟨rfl, rfl⟩
                  go_wp2_with fail
                  refine ⟨rfl, ?_⟩
                  rw [HN.out]
                  exact ⟨rfl, H4.out.g, _, H4.out.r⟩
                | true =>
                  have HA := Lib.hid hA
                  have HN : Hid (tread most l = ahead (ds ++ [z]) (treads z (n - (k + 1)) r2)) := by
                    show _ = _
                    rw [hE.out, show n - k = (n - (k + 1)) + 1 by omega]
                    exact ahead_step (by rw [HE.out, hT, hA, hL]; simp)
                  clear NO HE hE hA
                  go_wp2_with fail
                  refine (check_any z _ (by omega)).mono ?_; rintro e' w4 ⟨rfl, rfl⟩
                  rw [hT]
                  go_wp2_with fail
                  refine (shared_any was z _ (by omega) (by omega)).mono ?_; rintro e' w4 ⟨rfl, hb4⟩
                  rw [HA.out]
                  have H4 := Lib.hid (H3.out.more hb4)
                  clear hb4 H3
                  go_wp2_with fail
                  rw [gt_less, hL]
                  refine (want_yes b s r2 3 _ H4.out.r).mono ?_; rintro e' w5 ⟨rfl, rfl⟩
                  go_wp2_with ((with_reducible show wpList _ _ _ (⟨some 44, _, _, _, _, _⟩ :: _) _ _); refine wpList_append0 rfl (.tmp 41) (.tmp 43) _ rfl E_text w.heap.size ((H4.out.more ((Bel.refl _).alloc _)).g.size) u5 ds.length _ rfl (H4.out.more ((Bel.refl _).alloc _)).own _ 1 1 [tx z] rfl (rd_new _ _ _ 1 1 rfl) (by simp [Value.oneCell']) (by have := hdk.out; unfold maxLen; omega) (by have := hdk.out; omega) ?_; intro v5 w5 hown5 hg5 hat5)
                  go_roundg (n - (k + 1))
                  case rel => exact ⟨k + 1, ds ++ [z], z, r2, rfl, by omega, by go_num, rfl, hz16, by show _ = _; have := hdk.out; simp [this], by omega, (H4.out.more ((Bel.refl _).alloc _)).app hb hown5 hg5, HN⟩
                  case measure => rw [Hgk.out]; omega
              · have HN := Lib.hid (NO.out (by rw [HE.out, hT]; simp [hA]))
                have hA2 : ((alike was z : Int) == (m : Int)) = false := by simp; omega
                have hA3 : (alike was z == m) = false := by simp [hA]
                clear NO HE hE hA
                go_wp2_with fail
                refine (check_any z _ (by omega)).mono ?_; rintro e' w4 ⟨rfl, rfl⟩
                rw [hT]
                go_wp2_with fail
                refine (shared_any was z _ (by omega) (by omega)).mono ?_; rintro e' w4 ⟨rfl, hb4⟩
                have H4 := Lib.hid (H3.out.more hb4)
                clear hb4 H3
                go_wp2_with fail
                refine (want_no b s r2 3 _ H4.out.r).mono ?_; rintro e' w5 ⟨rfl, rfl⟩
                go_wp2_with fail
                refine ⟨rfl, ?_⟩
                rw [HN.out]
                exact ⟨rfl, H4.out.g, _, H4.out.r⟩
      · have HN : Hid (tread most l = .ok (ds, lr)) := by
          show _ = _
          rw [hE.out, show n - k = 0 by omega]
          simp [treads, ahead]
        clear hE
        go_wp2
        go_ret
        rw [HN.out]
        exact ⟨_, rfl, H.out⟩

end Go.Proofs.Ytnjpoamebkehbaa
