/- Texts laid together: XTermT XTermU XTermQ XTermV XTermPutsW XTermX XScan. -/
import Derived.Test.YtnekknemjhlgdaaBc
import Derived.Test.YtnekknemjhlgdaaBb

namespace Go.Proofs.Ytnekknemjhlgdaa
open Go.RowKit
set_option linter.unusedVariables false
set_option linter.unusedSimpArgs false

/-- Append onto a row of the call's own, whatever else has turned. -/
theorem wpList_append0 {P : Program} {w : World} {ops : Array Oper} {rest : List Oper} {o : Oper} {a : Act} {Q : Exit → Act → World → Prop} (hgd : o.guard = none) (s x : Operand) (t : TypeId)
    (ho : o.op = .call { callee := .builtin .append, args := #[s, x], argTypes := #[t, t] })
    {e : TypeId} {size bytes : Nat} (E : ElemInfo P t e size bytes) (base : Nat) (hB : base ≤ w.heap.size)
    (v : Value) (n : Nat) (xs : List Value) (hs : a.eval s = v) (hown : w.ownsRow base e size v n xs)
    (A : Option Addr) (m c : Nat) (news : List Value) (hx : a.eval x = .slice A m c) (hr : Rd w size A m news) (h1 : ∀ u ∈ news, u.oneCell' = true)
    (h63 : n + m ≤ maxLen) (hbytes : (n + m) * bytes ≤ 140737488355328)
    (h : ∀ v' w', w'.ownsRow base e size v' (n + m) (xs ++ news) → w.grownBy w' v.ownBlock → (v'.ownBlock = v.ownBlock ∨ v'.ownBlock = some w.heap.size) → wpList P ops Q rest (a.put o.dst v') w') : wpList P ops Q (o :: rest) a w := by
  obtain ⟨i, z, hi, hz, hsz, hby, hzs⟩ := E.hi
  exact wpList_plain hgd fun _ hK => wp_append_any w s x t ho base e i z size bytes E.ht hi hz hsz hby hzs E.pos v n xs hs hown w.heap.size A m c news hx hr h1 h63 hbytes hB fun v' w' h2 h3 h4 => hK _ _ (h v' w' h2 h3 h4)

/-- One text more behind another one; and so many. -/
def tround (was l : List UInt8) : PR (List UInt8) :=
  match pnum was.length l with
  | .error k => .error k
  | .ok (k, r) =>
    match ptxt 16 r with
    | .error e => .error e
    | .ok (x, r2) => if isTerm (was.take k ++ x) && (alike was (was.take k ++ x) == k) && Op.bytesLess was (was.take k ++ x) then .ok (was.take k ++ x, r2) else .error 3
def treads : List UInt8 → Nat → List UInt8 → PR (List (List UInt8))
  | _, 0, l => .ok ([], l)
  | was, n + 1, l =>
    match tround was l with
    | .error e => .error e
    | .ok (s, r) =>
      match treads s n r with
      | .error e => .error e
      | .ok (ts, r2) => .ok (s :: ts, r2)
def tread (most : Int) (l : List UInt8) : PR (List (List UInt8)) :=
  match pnum most l with
  | .error k => .error k
  | .ok (n, r) => treads [] n r
/-- Texts read, ahead of others. -/
def ahead (ds : List (List UInt8)) (o : PR (List (List UInt8))) : PR (List (List UInt8)) :=
  match o with
  | .error e => .error e
  | .ok (ts, r) => .ok (ds ++ ts, r)
theorem ahead_nil (o : PR (List (List UInt8))) : ahead [] o = o := by
  rcases o with e | ⟨ts, r⟩ <;> rfl
theorem ahead_step {ds : List (List UInt8)} {was l s r : List UInt8} {n : Nat} (h : tround was l = .ok (s, r)) : ahead ds (treads was (n + 1) l) = ahead (ds ++ [s]) (treads s n r) := by
  simp only [treads, h]
  rcases treads s n r with e | ⟨ts, r2⟩
  · rfl
  · simp [ahead]
theorem ahead_err {ds : List (List UInt8)} {was l : List UInt8} {n : Nat} {e : Int} (h : tround was l = .error e) : ahead ds (treads was (n + 1) l) = .error e := by
  simp only [treads, h]
  rfl

theorem pnum_lt {most : Int} {l r : List UInt8} {n : Nat} (h : pnum most l = .ok (n, r)) : r.length + 1 ≤ l.length := by
  have h1 := ntake_size l
  rcases pnum_cases (most := most) (l := l) with ⟨e, _⟩ | ⟨n', z, hn, hz, _, ⟨e, _⟩ | ⟨e, h2, h3⟩⟩
  · rw [h] at e; cases e
  · rw [h] at e; cases e
  · rw [h] at e
    injection e with e
    injection e with e1 e2
    subst e2
    rw [hn] at h1
    have := h1.2.2 rfl
    simp only [List.length_drop] at *
    omega
theorem ptxt_ok {most : Int} {l x r : List UInt8} (h : ptxt most l = .ok (x, r)) : (x.length : Int) ≤ most ∧ r.length ≤ l.length := by
  unfold ptxt at h
  split at h
  · cases h
  · rename_i n r1 hp
    obtain ⟨_, h1, h2⟩ := pnum_ok hp
    unfold pfix at h
    split at h
    · cases h
    · injection h with h
      injection h with e1 e2
      subst e1
      subst e2
      simp only [List.length_take, List.length_drop]
      omega

theorem gt_less (q t : List UInt8) : (!Op.bytesLess t q && !(t == q)) = Op.bytesLess q t := by
  rw [← Bool.not_or, less_le, Bool.not_not]
theorem E_text : ElemInfo Try.prog 23 9 1 16 := ElemInfo.mk' (z := .string ⟨#[]⟩) Try.underlying23 (by kernel_rfl) rfl (by omega)

/-- Texts in new memory, read by a reader whose block alone of the old ones has turned. -/
structure TxRd (w : World) (b : Nat) (s l : List UInt8) (v : Value) (ts : List (List UInt8)) (w' : World) : Prop where
  g : w.grownBy w' (some b)
  r : Rdr w' b s l
  own : w'.ownsRow w.heap.size 9 1 v ts.length (ts.map tx)
theorem TxRd.read {w w1 w2 : World} {b : Nat} {s l l' : List UInt8} {v : Value} {ts : List (List UInt8)} (h : TxRd w b s l v ts w1) (hb : b < w.heap.size) (hg : w1.grownBy w2 (some b)) (hr : Rdr w2 b s l') : TxRd w b s l' v ts w2 :=
  ⟨h.g.trans hg, hr, h.own.kept hg (by
    rcases ho : v.ownBlock with _ | k
    · exact .inl rfl
    · refine .inr fun e => ?_
      injection e with e
      have := (h.own.lt k ho).1
      omega)⟩
theorem TxRd.more {w w1 w2 : World} {b : Nat} {s l : List UInt8} {v : Value} {ts : List (List UInt8)} (h : TxRd w b s l v ts w1) (hb : Bel w1 w2) : TxRd w b s l v ts w2 :=
  ⟨h.g.trans (grown_of_bel hb _), h.r.bel hb, own_bel h.own hb⟩
theorem TxRd.app {w w1 w2 : World} {b : Nat} {s l x : List UInt8} {v v' : Value} {ts : List (List UInt8)} (h : TxRd w b s l v ts w1) (hb : b < w.heap.size) (ho : w2.ownsRow w.heap.size 9 1 v' (ts.length + 1) (ts.map tx ++ [tx x])) (hg : w1.grownBy w2 v.ownBlock) : TxRd w b s l v' (ts ++ [x]) w2 :=
  ⟨h.g.andThen hg (fun j e => .inl (h.own.lt j e).1), h.r.grown hg (fun e => by have := (h.own.lt b e.symm).1; omega), by simpa using ho⟩

/-- How term.Read ends. -/
def TPost (b : Nat) (s : List UInt8) (o : PR (List (List UInt8))) (w : World) (e : Ending) (w' : World) : Prop :=
  match o with
  | .error k => RErr b s k w e w'
  | .ok (ts, l) => ∃ v, e = .returned v ∧ TxRd w b s l v ts w'

set_option maxRecDepth 100000 in
set_option maxHeartbeats 1000000 in
theorem tread_any (b : Nat) (s l : List UInt8) (most : Int) (w : World) (hR : Rdr w b s l) (m0 : -9223372036854775808 ≤ most) (m1 : most ≤ 9223372036854775807) :
    Calls Try.prog 223 #[.pointer (some ⟨b, 0, none⟩), .int .i64 most] w (TPost b s (tread most l) w) := by
  have hb := hR.lt
  have hlen := hR.len
  have HN := Lib.hid (num_any b s l most w hR m0 m1)
  have HR := Lib.hid hR
  clear hR
  go_enter Try.func223, Try.ntmps223
  go_wp2_with fail
  cases hp : pnum most l with
  | error k =>
    have HE : Hid (tread most l = .error k) := by show _ = _; unfold tread; rw [hp]
    rw [hp] at HN
    refine HN.out.mono ?_; rintro e w1 ⟨rfl, hg, hr⟩
    clear hp
    go_wp2
    refine ⟨rfl, ?_⟩
    rw [HE.out]
    exact ⟨rfl, hg, hr⟩
  | ok q =>
    obtain ⟨n, r⟩ := q
    have HE : Hid (tread most l = ahead [] (treads [] n r)) := by show _ = _; rw [ahead_nil]; unfold tread; rw [hp]
    obtain ⟨hq0, hq1, hq2⟩ := pnum_ok hp
    rw [hp] at HN
    refine HN.out.mono ?_; rintro e w1 ⟨rfl, hg, hr⟩
    have H1 : Hid (TxRd w b s r (.slice none 0 0) [] w1) := ⟨hg, hr, ⟨rfl, .inl ⟨rfl, rfl⟩⟩⟩
    clear hp hg hr HN
    go_wp2
    go_loopg [5, 6, 12] n (fun g s5 s6 i wr => ∃ (k : Nat) (ds : List (List UInt8)) (was lr : List UInt8), g = n - k ∧ k ≤ n ∧ i = .int .i64 k ∧ s6 = .string ⟨was.toArray⟩ ∧ was.length ≤ 16 ∧ Hid (ds.length = k) ∧ k + lr.length ≤ 1000001 ∧ Hid (TxRd w b s lr s5 ds wr) ∧ Hid (tread most l = ahead ds (treads was (n - k) lr)))
    case atStart => exact ⟨0, [], [], r, rfl, by omega, rfl, rfl, by simp, rfl, by omega, H1, HE⟩
    case round =>
      obtain ⟨k, ds, was, lr, hgk, hk, rfl, rfl, hwas, hdk, hkl, H, hE⟩ := hrel
      have Hgk := Lib.hid hgk
      clear hgk HE H1
      by_cases hlt : k < n
      · have HM := Lib.hid (fun w (hr : Rdr w b s lr) => num_any b s lr (was.length : Int) w hr (by omega) (by omega))
        go_wp2_with fail
        cases hp : pnum was.length lr with
        | error e =>
          have HE : Hid (tread most l = .error e) := by show _ = _; rw [hE.out, show n - k = (n - k - 1) + 1 by omega]; exact ahead_err (by unfold tround; rw [hp])
          rw [hp] at HM
          refine (HM.out _ H.out.r).mono ?_; rintro e' w2 ⟨rfl, hg2, hr2⟩
          clear hp
          go_wp2_with fail
          refine ⟨rfl, ?_⟩
          rw [HE.out]
          exact ⟨rfl, H.out.g.trans hg2, hr2⟩
        | ok q =>
          obtain ⟨m, r1⟩ := q
          obtain ⟨_, hm1, hm2⟩ := pnum_ok hp
          have hm3 := pnum_lt hp
          have Hp := Lib.hid hp
          rw [hp] at HM
          refine (HM.out _ H.out.r).mono ?_; rintro e' w2 ⟨rfl, hg2, hr2⟩
          have H2 := Lib.hid (H.out.read hb hg2 hr2)
          clear hp hg2 hr2 HM H
          have km : (0 : Int) ≤ m := by omega
          have kn : (m : Int) ≤ was.length := hm1
          go_wp2_with fail
          -- REGION
          have HT := Lib.hid (fun w (hr : Rdr w b s r1) => text_any b s r1 16 w hr (by omega) (by omega))
          cases hx : ptxt 16 r1 with
          | error e =>
            have HE : Hid (tread most l = .error e) := by show _ = _; rw [hE.out, show n - k = (n - k - 1) + 1 by omega]; exact ahead_err (by unfold tround; rw [Hp.out]; show (match ptxt 16 r1 with | .error e => _ | .ok (x, r2) => _) = _; rw [hx])
            rw [hx] at HT
            clear hx
            refine wp_region_held_drew (S := fun _ => True) (by kernel_rfl) ?_ (fun hHeld => ?_)
            · (try dsimp only); try trivial
            refine wpAnyH_take (i := 0) (v := ?v0) (get_o0) (by kernel_rfl) (by kernel_rfl) (by kernel_rfl) (by exact fun _ _ _ h => h) (Or.inl ⟨by rfl, ?hy0⟩) (by assumption) ?_
            case hy0 => (intro w hSw; (try dsimp only at hSw); go_simp) <;> with_reducible rfl
            try simp only [Act.put, List.setIfInBounds_toArray, List.set_cons_zero, List.set_cons_succ]
            refine wpAnyH_take (i := 1) (v := ?v1) (get_os (get_o0)) (by kernel_rfl) (by kernel_rfl) (by kernel_rfl) (by exact fun _ _ _ h => h) (Or.inl ⟨by rfl, ?hy1⟩) (by assumption) ?_
            case hy1 => (intro w hSw; (try dsimp only at hSw); go_simp) <;> with_reducible rfl
            try simp only [Act.put, List.setIfInBounds_toArray, List.set_cons_zero, List.set_cons_succ]
            refine wpAnyH_take (i := 2) (v := ?v2) (get_os (get_os (get_o0))) (by kernel_rfl) (by kernel_rfl) (by kernel_rfl) (by exact fun _ _ _ h => h) (Or.inl ⟨by rfl, ?hy2⟩) (by assumption) ?_
            case hy2 => (intro w hSw; (try dsimp only at hSw); go_simp) <;> with_reducible rfl
            try simp only [Act.put, List.setIfInBounds_toArray, List.set_cons_zero, List.set_cons_succ]
            refine wpAnyH_take (i := 3) (v := ?v3) (get_os (get_os (get_os (get_o0)))) (by kernel_rfl) (by kernel_rfl) (by kernel_rfl) (by exact fun _ _ _ h => h) (Or.inl ⟨by rfl, ?hy3⟩) (by assumption) ?_
            case hy3 => (intro w hSw; (try dsimp only at hSw); go_simp) <;> with_reducible rfl
            try simp only [Act.put, List.setIfInBounds_toArray, List.set_cons_zero, List.set_cons_succ]
            refine wpAnyH_ready (rs := [4]) (by kernel_rfl) (by simp) ?_
            refine AllReadyH.cons (get_os (get_os (get_os (get_os (get_o0))))) (fun KK hKK => ?_) AllReadyH.nil
            go_simp
            refine (HT.out _ (H2.out.more (Bel.refl _).drew).r).mono ?_; rintro e' w3 ⟨rfl, hg3, hr3⟩
            refine ⟨rfl, ?_⟩
            rw [HE.out]
            exact ⟨rfl, (H2.out.more (Bel.refl _).drew).g.trans hg3, hr3⟩
          | ok q =>
            obtain ⟨x, r2⟩ := q
            obtain ⟨hx1, hx2⟩ := ptxt_ok hx
            have Hx := Lib.hid hx
            rw [hx] at HT
            clear hx
            refine wp_region_held_drew (S := fun _ => True) (by kernel_rfl) ?_ (fun hHeld => ?_)
            · (try dsimp only); try trivial
            refine wpAnyH_take (i := 0) (v := ?v0) (get_o0) (by kernel_rfl) (by kernel_rfl) (by kernel_rfl) (by exact fun _ _ _ h => h) (Or.inl ⟨by rfl, ?hy0⟩) (by assumption) ?_
            case hy0 => (intro w hSw; (try dsimp only at hSw); go_simp) <;> with_reducible rfl
            try simp only [Act.put, List.setIfInBounds_toArray, List.set_cons_zero, List.set_cons_succ]
            refine wpAnyH_take (i := 1) (v := ?v1) (get_os (get_o0)) (by kernel_rfl) (by kernel_rfl) (by kernel_rfl) (by exact fun _ _ _ h => h) (Or.inl ⟨by rfl, ?hy1⟩) (by assumption) ?_
            case hy1 => (intro w hSw; (try dsimp only at hSw); go_simp) <;> with_reducible rfl
            try simp only [Act.put, List.setIfInBounds_toArray, List.set_cons_zero, List.set_cons_succ]
            refine wpAnyH_take (i := 2) (v := ?v2) (get_os (get_os (get_o0))) (by kernel_rfl) (by kernel_rfl) (by kernel_rfl) (by exact fun _ _ _ h => h) (Or.inl ⟨by rfl, ?hy2⟩) (by assumption) ?_
            case hy2 => (intro w hSw; (try dsimp only at hSw); go_simp) <;> with_reducible rfl
            try simp only [Act.put, List.setIfInBounds_toArray, List.set_cons_zero, List.set_cons_succ]
            refine wpAnyH_take (i := 3) (v := ?v3) (get_os (get_os (get_os (get_o0)))) (by kernel_rfl) (by kernel_rfl) (by kernel_rfl) (by exact fun _ _ _ h => h) (Or.inl ⟨by rfl, ?hy3⟩) (by assumption) ?_
            case hy3 => (intro w hSw; (try dsimp only at hSw); go_simp) <;> with_reducible rfl
            try simp only [Act.put, List.setIfInBounds_toArray, List.set_cons_zero, List.set_cons_succ]
            refine wpAnyH_ready (rs := [4]) (by kernel_rfl) (by simp) ?_
            refine AllReadyH.cons (get_os (get_os (get_os (get_os (get_o0))))) (fun KK hKK => ?_) AllReadyH.nil
            go_simp
            refine (HT.out _ (H2.out.more (Bel.refl _).drew).r).mono ?_; rintro e' w3 ⟨rfl, hg3, hr3⟩
            have H3 := Lib.hid ((H2.out.more (Bel.refl _).drew).read hb hg3 hr3)
            clear hg3 hr3 HT
            refine hKK.out _ _ ?_ (fun hHeld => ?_)
            · (try dsimp only); try trivial
            clear hKK KK
            try simp only [Act.put, List.setIfInBounds_toArray, List.set_cons_zero, List.set_cons_succ]
            refine wpAnyH_ready (rs := [5]) (by kernel_rfl) (by simp) ?_
            refine AllReadyH.cons (get_os (get_os (get_os (get_os (get_os (get_o0)))))) (fun KK hKK => ?_) AllReadyH.nil
            go_simp
            try go_wp2_with fail
            refine hKK.out _ _ ?_ (fun hHeld => ?_)
            · (try dsimp only); try trivial
            clear hKK KK
            try simp only [Act.put, List.setIfInBounds_toArray, List.set_cons_zero, List.set_cons_succ]
            refine wpAnyH_ready (rs := [6]) (by kernel_rfl) (by simp) ?_
            refine AllReadyH.cons (get_os (get_os (get_os (get_os (get_os (get_os (get_o0))))))) (fun KK hKK => ?_) AllReadyH.nil
            go_simp
            try go_wp2_with fail
            refine hKK.out _ _ ?_ (fun hHeld => ?_)
            · (try dsimp only); try trivial
            clear hKK KK
            try simp only [Act.put, List.setIfInBounds_toArray, List.set_cons_zero, List.set_cons_succ]
            refine wpAnyH_done (by kernel_rfl) ?_ _
            simp only [str_upto, str_append]
            clear hHeld
            have hzl : (was.take m ++ x).length ≤ 32 := by simp; omega
            have hzt : isTerm (was.take m ++ x) = true → (was.take m ++ x).length ≤ 16 := by unfold isTerm; simp
            have HE : Hid (tround was lr = if isTerm (was.take m ++ x) && (alike was (was.take m ++ x) == m) && Op.bytesLess was (was.take m ++ x) then .ok (was.take m ++ x, r2) else .error 3) := by
              show _ = _
              unfold tround
              rw [Hp.out]
              show (match ptxt 16 r1 with | .error e => _ | .ok (x, r2) => _) = _
              rw [Hx.out]
            generalize was.take m ++ x = z at *
            have hal := (alike_le was z).1
            have no : tround was lr = .error 3 → tread most l = .error 3 := fun h => by rw [hE.out, show n - k = (n - k - 1) + 1 by omega]; exact ahead_err h
            have NO := Lib.hid no
            clear no
            cases hT : isTerm z with
            | false =>
              have HN := Lib.hid (NO.out (by rw [HE.out, hT]; rfl))
              clear NO HE hE
              go_wp2_with fail
              refine (check_any z _ (by omega)).mono ?_; rintro e' w4 ⟨rfl, rfl⟩
              rw [hT]
              go_wp2_with fail
              refine (want_no b s r2 3 _ H3.out.r).mono ?_; rintro e' w4 ⟨rfl, rfl⟩
              go_wp2_with fail
              refine ⟨rfl, ?_⟩
              rw [HN.out]
              exact ⟨rfl, H3.out.g, _, H3.out.r⟩
            | true =>
              have hz16 := hzt hT
              by_cases hA : alike was z = m
              · cases hL : Op.bytesLess was z with
                | false =>
                  have HN := Lib.hid (NO.out (by rw [HE.out, hT, hA, hL]; simp))
                  have HA := Lib.hid hA
                  clear NO HE hE hA
                  go_wp2_with fail
                  refine (check_any z _ (by omega)).mono ?_; rintro e' w4 ⟨rfl, rfl⟩
                  rw [hT]
                  go_wp2_with fail
                  refine (shared_any was z _ (by omega) (by omega)).mono ?_; rintro e' w4 ⟨rfl, hb4⟩
                  rw [HA.out]
                  have H4 := Lib.hid (H3.out.more hb4)
                  clear hb4 H3
                  go_wp2_with fail
                  rw [gt_less, hL]
                  refine (want_no b s r2 3 _ H4.out.r).mono ?_; rintro e' w5 ⟨rfl, rfl⟩
                  go_wp2_with fail
                  refine ⟨rfl, ?_⟩
                  rw [HN.out]
                  exact ⟨rfl, H4.out.g, _, H4.out.r⟩
                | true =>
                  have HA := Lib.hid hA
                  have HN : Hid (tread most l = ahead (ds ++ [z]) (treads z (n - (k + 1)) r2)) := by
                    show _ = _
                    rw [hE.out, show n - k = (n - (k + 1)) + 1 by omega]
                    exact ahead_step (by rw [HE.out, hT, hA, hL]; simp)
                  clear NO HE hE hA
                  go_wp2_with fail
                  refine (check_any z _ (by omega)).mono ?_; rintro e' w4 ⟨rfl, rfl⟩
                  rw [hT]
                  go_wp2_with fail
                  refine (shared_any was z _ (by omega) (by omega)).mono ?_; rintro e' w4 ⟨rfl, hb4⟩
                  rw [HA.out]
                  have H4 := Lib.hid (H3.out.more hb4)
                  clear hb4 H3
                  go_wp2_with fail
                  rw [gt_less, hL]
                  refine (want_yes b s r2 3 _ H4.out.r).mono ?_; rintro e' w5 ⟨rfl, rfl⟩
                  go_wp2_with ((with_reducible show wpList _ _ _ (⟨some 44, _, _, _, _, _⟩ :: _) _ _); refine wpList_append0 rfl (.tmp 41) (.tmp 43) _ rfl E_text w.heap.size ((H4.out.more ((Bel.refl _).alloc _)).g.size) u5 ds.length _ rfl (H4.out.more ((Bel.refl _).alloc _)).own _ 1 1 [tx z] rfl (rd_new _ _ _ 1 1 rfl) (by simp [Value.oneCell']) (by have := hdk.out; unfold maxLen; omega) (by have := hdk.out; omega) ?_; intro v5 w5 hown5 hg5 hat5)
                  go_roundg (n - (k + 1))
                  case rel => exact ⟨k + 1, ds ++ [z], z, r2, rfl, by omega, by go_num, rfl, hz16, by show _ = _; have := hdk.out; simp [this], by omega, (H4.out.more ((Bel.refl _).alloc _)).app hb hown5 hg5, HN⟩
                  case measure => rw [Hgk.out]; omega
              · have HN := Lib.hid (NO.out (by rw [HE.out, hT]; simp [hA]))
                have hA2 : ((alike was z : Int) == (m : Int)) = false := by simp; omega
                have hA3 : (alike was z == m) = false := by simp [hA]
                clear NO HE hE hA
                go_wp2_with fail
                refine (check_any z _ (by omega)).mono ?_; rintro e' w4 ⟨rfl, rfl⟩
                rw [hT]
                go_wp2_with fail
                refine (shared_any was z _ (by omega) (by omega)).mono ?_; rintro e' w4 ⟨rfl, hb4⟩
                have H4 := Lib.hid (H3.out.more hb4)
                clear hb4 H3
                go_wp2_with fail
                refine (want_no b s r2 3 _ H4.out.r).mono ?_; rintro e' w5 ⟨rfl, rfl⟩
                go_wp2_with fail
                refine ⟨rfl, ?_⟩
                rw [HN.out]
                exact ⟨rfl, H4.out.g, _, H4.out.r⟩
      · have HN : Hid (tread most l = .ok (ds, lr)) := by
          show _ = _
          rw [hE.out, show n - k = 0 by omega]
          simp [treads, ahead]
        clear hE
        go_wp2
        go_ret
        rw [HN.out]
        exact ⟨_, rfl, H.out⟩

end Go.Proofs.Ytnekknemjhlgdaa

namespace Go.Proofs.Ytnekknemjhlgdaa
open Go.RowKit
set_option linter.unusedVariables false
set_option linter.unusedSimpArgs false

theorem own_but2 {w w' : World} {B base : Nat} {e : TypeId} {size n : Nat} {v : Value} {xs : List Value} (h : w.ownsRow base e size v n xs) (hb : But2 B w w') (hB : B + 2 ≤ base) : w'.ownsRow base e size v n xs := by
  refine ⟨h.1, ?_⟩
  rcases h.2 with h0 | ⟨g, cap, cur, h1, h2, h3, h4⟩
  · exact .inl h0
  · have hlt : g < w.heap.size := by
      rcases Nat.lt_or_ge g w.heap.size with h | h
      · exact h
      · rw [Array.getElem?_eq_none h] at h3; cases h3
    exact .inr ⟨g, cap, cur, h1, h2, (hb.block g hlt (by omega) (by omega)).trans h3, h4⟩
theorem own_less {w : World} {base base' : Nat} {e : TypeId} {size n : Nat} {v : Value} {xs : List Value} (h : w.ownsRow base e size v n xs) (hb : base' ≤ base) : w.ownsRow base' e size v n xs := by
  refine ⟨h.1, ?_⟩
  rcases h.2 with h0 | ⟨g, cap, cur, h1, h2, h3⟩
  · exact .inl h0
  · exact .inr ⟨g, cap, cur, h1, Nat.le_trans hb h2, h3⟩

/-- What a whole reading ends with. -/
def endErr {α : Type} (o : PR α) : Int :=
  match o with
  | .error k => k
  | .ok (_, l) => if l = [] then 0 else 3

/-- A row read is laid in a block of the reading function's own. -/
def RT (w0 : World) (B g : Nat) (o : PR (List (List UInt8))) (k : Int) (w' : World) : Prop :=
  Bel w0 w' ∧ k = endErr o ∧ ∃ v, Blk w' g 23 #[v] ∧ ∀ ts l, o = .ok (ts, l) → w'.ownsRow (B + 3) 9 1 v ts.length (ts.map tx)

/-- What term.Take answers. -/
def ttake (most : Int) (s : List UInt8) : List (List UInt8) × Int :=
  match tread most s with
  | .error k => ([], k)
  | .ok (ts, l) => if l = [] then (ts, 0) else ([], 3)
/-- A row of texts with an error's number, told. -/
def TxSaid (w : World) (r : List (List UInt8) × Int) (e : Ending) (w' : World) : Prop :=
  ∃ A c, e = .returned (.tuple #[.slice A r.1.length c, .int .i64 r.2]) ∧ Bel w w' ∧ Rd w' 1 A r.1.length (r.1.map tx)

theorem tread_err {most k : Int} {s : List UInt8} (h : tread most s = .error k) : k = 3 ∨ k = 5 := by
  have key : ∀ n was l k, treads was n l = .error k → k = 3 ∨ k = 5 := by
    intro n
    induction n with
    | zero => intro was l k h; cases h
    | succ n ih =>
      intro was l k h
      unfold treads at h
      split at h
      · rename_i e he
        injection h with h
        subst h
        unfold tround at he
        split at he
        · rename_i hp
          injection he with he
          subst he
          exact pnum_err hp
        · split at he
          · rename_i hp
            injection he with he
            subst he
            unfold ptxt at hp
            split at hp
            · rename_i h2
              injection hp with hp
              subst hp
              exact pnum_err h2
            · unfold pfix at hp
              split at hp
              · injection hp with hp; exact .inl hp.symm
              · cases hp
          · split at he
            · cases he
            · injection he with he; exact .inl he.symm
      · split at h
        · rename_i he
          injection h with h
          subst h
          exact ih _ _ _ he
        · cases h
  unfold tread at h
  split at h
  · rename_i hp
    injection h with h
    subst h
    exact pnum_err hp
  · exact key _ _ _ _ h

end Go.Proofs.Ytnekknemjhlgdaa

namespace Go.Proofs.Ytnekknemjhlgdaa
open Go.RowKit
set_option linter.unusedVariables false
set_option linter.unusedSimpArgs false

theorem q_pnumber {n : Nat} (hn : n < 18446744073709551616) (t : List UInt8) : pnumber (nput n ++ t) = .ok (n, t) := by
  unfold pnumber
  rw [ntake_nput hn]
  simp only [if_true]
  rw [List.drop_append_of_le_length (by rw [nput_length]; exact Nat.le_refl _), List.drop_of_length_le (by rw [nput_length]; exact Nat.le_refl _)]
  rfl
theorem q_pnum {n : Nat} {most : Int} (hn : n < 18446744073709551616) (hm : (n : Int) ≤ most) (t : List UInt8) : pnum most (nput n ++ t) = .ok (n, t) := by
  unfold pnum
  rw [q_pnumber hn]
  simp only
  rw [if_neg (by omega)]
theorem q_ptxt {l : List UInt8} {most : Int} (hl : (l.length : Int) ≤ most) (h2 : l.length < 18446744073709551616) (t : List UInt8) : ptxt most (ptext l ++ t) = .ok (l, t) := by
  unfold ptxt
  have e : ptext l ++ t = nput l.length ++ (l ++ t) := by unfold ptext; rw [List.append_assoc]
  rw [e, q_pnum h2 hl]
  simp only
  unfold pfix
  rw [if_neg (by rw [List.length_append]; omega), Int.toNat_natCast, List.take_left, List.drop_left]
/-- What a number is read of begins with its bytes. -/
theorem q_pnum_back {most : Int} {l r : List UInt8} {n : Nat} (h : pnum most l = .ok (n, r)) : l = nput n ++ r := by
  rcases pnum_cases (most := most) (l := l) with ⟨e, _⟩ | ⟨n', z, hn, hz, _, ⟨e, _⟩ | ⟨e, h2, h3⟩⟩
  · rw [h] at e; cases e
  · rw [h] at e; cases e
  · rw [h] at e
    injection e with e
    injection e with e1 e2
    subst e1
    subst e2
    have := ntake_true (l := l) (by rw [hn])
    rw [hn] at this
    rw [← this.1, List.take_append_drop]
theorem q_ptxt_back {most : Int} {l x r : List UInt8} (h : ptxt most l = .ok (x, r)) : l = ptext x ++ r := by
  unfold ptxt at h
  split at h
  · cases h
  · rename_i n r1 hp
    unfold pfix at h
    split at h
    · cases h
    · rename_i hc
      injection h with h
      injection h with e1 e2
      have := q_pnum_back hp
      rw [this]
      unfold ptext
      rw [← e1, ← e2, Int.toNat_natCast, List.length_take, Nat.min_eq_left (by omega), List.append_assoc, List.take_append_drop]

theorem alike_take (x y : List UInt8) : x.take (alike x y) = y.take (alike x y) := by
  induction x generalizing y with
  | nil => simp [alike]
  | cons a x ih =>
    cases y with
    | nil => simp [alike]
    | cons b y =>
      rw [alike]
      split
      · rename_i h
        subst h
        simp [ih y]
      · rfl
theorem alike_join (x y : List UInt8) : x.take (alike x y) ++ y.drop (alike x y) = y := by
  rw [alike_take, List.take_append_drop]

theorem tround_tput {was t : List UInt8} (ht : isTerm t = true) (hl : Op.bytesLess was t = true) (hw : was.length ≤ 16) (r : List UInt8) : tround was (nput (alike was t) ++ ptext (t.drop (alike was t)) ++ r) = .ok (t, r) := by
  have h1 := alike_le was t
  have h16 : t.length ≤ 16 := by unfold isTerm at ht; simp at ht; omega
  unfold tround
  rw [List.append_assoc, q_pnum (by omega) (by omega)]
  simp only
  rw [q_ptxt (by simp; omega) (by simp; omega)]
  simp only
  rw [alike_join, ht, hl]
  simp
theorem treads_tputs {ts : List (List UInt8)} : ∀ {p : Option (List UInt8)} {was : List UInt8}, rowFrom p ts = 0 → (p = some was ∨ (p = none ∧ was = [])) → was.length ≤ 16 → ∀ r, treads was ts.length (tputs was ts ++ r) = .ok (ts, r) := by
  induction ts with
  | nil => intro p was h hp hw r; rfl
  | cons t ts ih =>
    intro p was h hp hw r
    rw [rowFrom] at h
    split at h
    · rename_i ht
      split at h
      · cases h
      · rename_i hn
        have h16 : t.length ≤ 16 := by unfold isTerm at ht; simp at ht; omega
        have hl : Op.bytesLess was t = true := by
          rcases hp with hp | ⟨hp, hw0⟩
          · subst hp
            simpa using hn
          · subst hw0
            unfold isTerm at ht
            cases t with
            | nil => simp at ht
            | cons a t => rfl
        rw [List.length_cons, treads, tputs, List.append_assoc, tround_tput ht hl hw]
        simp only
        rw [ih h (.inl rfl) h16]
    · cases h
theorem ttake_tput {ts : List (List UInt8)} (h : rowErr ts = 0) (hn : ts.length ≤ 100000) : ttake ts.length (tput ts) = (ts, 0) := by
  unfold ttake tread tput
  rw [q_pnum (by omega) (Int.le_refl _)]
  have := treads_tputs (ts := ts) (p := none) (was := []) h (.inr ⟨rfl, rfl⟩) (by simp) []
  rw [List.append_nil] at this
  simp only
  rw [this]
  simp

/-- What is read rises, and is put as it was read. -/
theorem tround_back {was l s r : List UInt8} (h : tround was l = .ok (s, r)) : isTerm s = true ∧ Op.bytesLess was s = true ∧ l = (nput (alike was s) ++ ptext (s.drop (alike was s))) ++ r := by
  unfold tround at h
  split at h
  · cases h
  · rename_i k r1 hp
    split at h
    · cases h
    · rename_i x r2 hx
      split at h
      · rename_i hc
        injection h with h
        injection h with e1 e2
        subst e2
        simp only [Bool.and_eq_true, beq_iff_eq] at hc
        rw [e1] at hc
        obtain ⟨⟨h1, h2⟩, h3⟩ := hc
        refine ⟨h1, h3, ?_⟩
        have hk : k ≤ was.length := by have := (pnum_ok hp).2.1; omega
        have hd : s.drop k = x := by
          rw [← e1, List.drop_append_of_le_length (by simp; omega), List.drop_of_length_le (by simp; omega)]
          rfl
        rw [h2, hd, q_pnum_back hp, q_ptxt_back hx, List.append_assoc]
      · cases h
theorem treads_back {n : Nat} : ∀ {was l r : List UInt8} {ts : List (List UInt8)} {p : Option (List UInt8)}, treads was n l = .ok (ts, r) → (p = some was ∨ (p = none ∧ was = [])) → rowFrom p ts = 0 ∧ ts.length = n ∧ l = tputs was ts ++ r := by
  induction n with
  | zero =>
    intro was l r ts p h hp
    injection h with h
    injection h with e1 e2
    subst e1
    subst e2
    exact ⟨rfl, rfl, rfl⟩
  | succ n ih =>
    intro was l r ts p h hp
    rw [treads] at h
    split at h
    · cases h
    · rename_i s r1 hs
      split at h
      · cases h
      · rename_i us r2 hu
        injection h with h
        injection h with e1 e2
        subst e1
        subst e2
        obtain ⟨a1, a2, a3⟩ := tround_back hs
        obtain ⟨b1, b2, b3⟩ := ih (p := some s) hu (.inl rfl)
        refine ⟨?_, by simp [b2], ?_⟩
        · rw [rowFrom, a1]
          simp only [if_true]
          rw [if_neg]
          · exact b1
          · rcases hp with hp | ⟨hp, hw⟩
            · subst hp; simp [a2]
            · subst hp; simp
        · rw [tputs, a3, b3, List.append_assoc, List.append_assoc]
          simp only [List.append_assoc]
theorem tread_back {most : Int} {l r : List UInt8} {ts : List (List UInt8)} (h : tread most l = .ok (ts, r)) : rowErr ts = 0 ∧ l = tput ts ++ r := by
  unfold tread at h
  split at h
  · cases h
  · rename_i n r1 hp
    obtain ⟨h1, h2, h3⟩ := treads_back (p := none) h (.inr ⟨rfl, rfl⟩)
    refine ⟨h1, ?_⟩
    unfold tput
    rw [h2, q_pnum_back hp, h3, List.append_assoc]

end Go.Proofs.Ytnekknemjhlgdaa

namespace Go.Proofs.Ytnekknemjhlgdaa
open Go.RowKit
set_option linter.unusedVariables false
set_option linter.unusedSimpArgs false
attribute [local go_sem] str_upto str_at str_from

theorem take_same {x y : List UInt8} {k : Nat} (h : x.take k = y.take k) (h1 : k < x.length) (h2 : k < y.length) : x.take (k + 1) = y.take (k + 1) ↔ x[k] = y[k] := by
  rw [List.take_succ_eq_append_getElem h1, List.take_succ_eq_append_getElem h2, h]
  constructor
  · intro e
    have := List.append_inj_right' e rfl
    simpa using this
  · intro e
    rw [e]

set_option maxRecDepth 100000 in
set_option maxHeartbeats 1000000 in
theorem ralike_any (x y : List UInt8) (w : World) (hx : x.length ≤ 9223372036854775806) (hy : y.length ≤ 9223372036854775806) :
    Calls Try.prog 235 #[.string ⟨x.toArray⟩, .string ⟨y.toArray⟩] w fun e w' => e = .returned (.int .i64 (alike x y : Nat)) ∧ Bel w w' := by
  go_enter Try.func235, Try.ntmps235
  go_wp2
  go_loopg [5] x.length (fun g i wr => ∃ k : Nat, g = x.length - k ∧ k ≤ x.length ∧ k ≤ y.length ∧ i = .int .i64 k ∧ Bel w wr ∧ Hid (x.take k = y.take k) ∧ Hid (alike x y = k + alike (x.drop k) (y.drop k)))
  case atStart => exact ⟨0, rfl, by omega, by omega, rfl, Bel.refl _, by show _ = _; simp, by show _ = _; simp⟩
  case round =>
    obtain ⟨k, hgk, hkx, hky, rfl, hB, hT, hF⟩ := hrel
    have Hgk := Lib.hid hgk
    clear hgk
    by_cases a1 : k < x.length
    · by_cases a2 : k < y.length
      · have b1 : (k : Int) + 1 ≤ x.length := by omega
        have b2 : (k : Int) + 1 ≤ y.length := by omega
        have b3 : ((k : Int) + 1).toNat = k + 1 := by omega
        have b4 : IntKind.i64.wrap ((k : Int) + 1) = (k : Int) + 1 := IntWalk.i64_in _ (by omega)
        by_cases a3 : x[k] = y[k]
        · have HR : Hid (alike x y = (k + 1) + alike (x.drop (k + 1)) (y.drop (k + 1))) := by show _ = _; rw [hF.out, alike_step a1 a2 a3]; omega
          have HT : Hid (x.take (k + 1) = y.take (k + 1)) := by show _ = _; exact (take_same hT.out a1 a2).2 a3
          have e4 : (x.take (k + 1) == y.take (k + 1)) = true := by rw [HT.out]; simp
          clear a3 hF hT
          go_wp2_with fail
          go_quiet (fail)
          go_wp2
          go_roundg (x.length - (k + 1))
          case rel => exact ⟨k + 1, rfl, by omega, by omega, by go_num, hB.drewN _, HT, HR⟩
          case measure => rw [Hgk.out]; omega
        · have HR : Hid (alike x y = k) := by show _ = _; rw [hF.out, alike_stop a1 a2 a3]; omega
          have e4 : (x.take (k + 1) == y.take (k + 1)) = false := by
            rw [beq_eq_false_iff_ne]
            exact fun h => a3 ((take_same hT.out a1 a2).1 h)
          clear a3 hF hT
          go_wp2_with fail
          go_quiet (fail)
          go_wp2
          go_ret
          rw [HR.out]
          exact ⟨rfl, hB.drewN _⟩
      · have HR : Hid (alike x y = k) := by show _ = _; rw [hF.out, alike_end (.inr (by omega))]; omega
        have d2 : decide ((k : Int) < (y.length : Int)) = false := by simp; omega
        have d3 : decide (k < y.length) = false := by simp; omega
        clear hF hT
        go_wp2_with fail
        go_quiet (fail)
        go_wp2
        go_ret
        rw [HR.out]
        exact ⟨rfl, hB.drewN _⟩
    · have HR : Hid (alike x y = k) := by show _ = _; rw [hF.out, alike_end (.inl (by omega))]; omega
      have d2 : decide ((k : Int) < (x.length : Int)) = false := by simp; omega
      have d3 : decide (k < x.length) = false := by simp; omega
      clear hF hT
      go_wp2_with fail
      go_quiet (fail)
      go_wp2
      go_ret
      rw [HR.out]
      exact ⟨rfl, hB.drewN _⟩

set_option maxRecDepth 100000 in
set_option maxHeartbeats 1000000 in
theorem rtput_any (A : Option Addr) (n c : Nat) (ts : List (List UInt8)) (w : World) (hr : Rd w 1 A n (ts.map tx)) (hE : rowErr ts = 0) (hn : n ≤ 100000) :
    Calls Try.prog 225 #[.slice A n c] w fun e w' => e = .returned (.string ⟨(tput ts).toArray⟩) ∧ Bel w w' := by
  have hlen : Hid (ts.length = n) := by have := hr.len; show _ = _; simpa using this
  have HE := Lib.hid hE
  have hpn : (nput n).length ≤ 9 := nput_le9 _
  clear hE
  go_enter Try.func225, Try.ntmps225
  go_wp2_with fail
  refine (rputNum_any _ _ (by omega) (by omega)).mono ?_; rintro e w1 ⟨rfl, hb⟩
  rw [Int.toNat_natCast]
  have HO : Hid (tput ts = nput n ++ tputs [] (ts.drop 0)) := by show _ = _; unfold tput; rw [hlen.out]; rfl
  go_wp2
  go_loopg [3, 4, 5] n (fun g o s i wr => ∃ (k : Nat) (l was : List UInt8), g = n - k ∧ k ≤ n ∧ i = .int .i64 k ∧ o = .string ⟨l.toArray⟩ ∧ s = .string ⟨was.toArray⟩ ∧ was.length ≤ 16 ∧ l.length ≤ 9 + 34 * k ∧ Bel w wr ∧ Hid (tput ts = l ++ tputs was (ts.drop k)))
  case atStart => exact ⟨0, nput n, [], rfl, by omega, rfl, rfl, rfl, by simp, by omega, hb, HO⟩
  case round =>
    obtain ⟨k, l, was, hgk, hk, rfl, rfl, rfl, hwas, hll, hB, hF⟩ := hrel
    have Hgk := Lib.hid hgk
    clear hgk
    by_cases hlt : k < n
    · obtain ⟨ad, t, rfl, htk, hc⟩ := (hr.bel hB).tx hlt
      have hl0 : t.length ≤ 16 := rowErr_len HE.out (List.mem_of_getElem? htk)
      have HR : Hid (tput ts = (l ++ (nput (alike was t) ++ ptext (t.drop (alike was t)))) ++ tputs t (ts.drop (k + 1))) := by show _ = _; rw [hF.out, tputs_drop htk]; simp only [List.append_assoc]
      clear htk hF
      obtain ⟨hal1, hal2⟩ := alike_le was t
      have Hc := Lib.hid hc
      go_wp2_with fail
      refine (ralike_any _ _ _ (by omega) (by omega)).mono ?_; rintro e w2 ⟨rfl, hb2⟩
      replace hB := hB.trans hb2
      generalize alike was t = m at *
      have hpm : (nput m).length ≤ 9 := nput_le9 _
      have hpt : (ptext (t.drop m)).length ≤ 9 + (t.drop m).length := by unfold ptext; rw [List.length_append]; have := nput_le9 (t.drop m).length; omega
      rw [List.length_drop] at hpt
      have c1 : (0 : Int) ≤ (m : Int) := by omega
      have c2 : (m : Int) ≤ (t.length : Int) := by omega
      have hc2 := (hb2.cell (World.block_lt_of_cell? _ _ Hc.out)).trans Hc.out
      have d0 := fun u : Over w2 => Over.cell hc2 u
      clear hc hb2
      go_wp2_with fail
      refine wp_region_over (by kernel_rfl) (by kernel_rfl) ?_
      repeat (go_big_quiet_step (first | (go_at_call 93; exact calls_over (rputNum_any _ _ (by omega) (by omega))) | (go_at_call 150; exact calls_over (rputText_any _ _ (by simp; omega)))))
      refine wpQuiet_nil ?_
      rintro _ ⟨u, rfl⟩
      replace hB := hB.trans u.bel
      have hc3 := d0 u
      clear d0 hc2
      go_wp2
      go_roundg (n - (k + 1))
      case rel => exact ⟨k + 1, _, t, rfl, by omega, by go_num, by simp only [str_append, List.append_assoc, Int.toNat_natCast], rfl, hl0, by simp only [List.length_append]; omega, hB, HR⟩
      case measure => rw [Hgk.out]; omega
    · have HR : Hid (tput ts = l) := by show _ = _; rw [hF.out, List.drop_of_length_le (by have := hlen.out; omega)]; simp [tputs]
      clear hF
      go_wp2
      go_ret
      rw [HR.out]
      exact ⟨rfl, hB⟩

theorem txsEq_step {xs ys : List (List UInt8)} {k : Nat} {a b : List UInt8} (ha : xs[k]? = some a) (hb : ys[k]? = some b) : (xs.drop k == ys.drop k) = ((a == b) && (xs.drop (k + 1) == ys.drop (k + 1))) := by
  obtain ⟨h1, rfl⟩ := List.getElem?_eq_some_iff.1 ha
  obtain ⟨h2, rfl⟩ := List.getElem?_eq_some_iff.1 hb
  rw [List.drop_eq_getElem_cons h1, List.drop_eq_getElem_cons h2]
  rfl

end Go.Proofs.Ytnekknemjhlgdaa

namespace Go.Proofs.Ytnekknemjhlgdaa
open Go.RowKit
set_option linter.unusedVariables false

theorem txok_row {x : Row (List UInt8)} {w : World} (hx : x.ok w) : TxOk x.l := fun t ht => Nat.le_trans (hx.all t ht) (by omega)
theorem tputs_len (ts : List (List UInt8)) : ∀ was, (∀ t ∈ ts, t.length ≤ 16) → (tputs was ts).length ≤ 34 * ts.length := by
  induction ts with
  | nil => intro was h; simp [tputs]
  | cons t r ih =>
    intro was h
    have h1 := ih t (fun u hu => h u (List.mem_cons_of_mem _ hu))
    have h2 := h t (List.mem_cons_self ..)
    have h3 := nput_le9 (alike was t)
    have h4 := nput_le9 (t.drop (alike was t)).length
    rw [tputs]
    unfold ptext
    simp only [List.length_append, List.length_cons] at *
    have h5 : (t.drop (alike was t)).length ≤ 16 := by rw [List.length_drop]; omega
    omega
theorem tput_len {ts : List (List UInt8)} (h : rowErr ts = 0) : (tput ts).length ≤ 9 + 34 * ts.length := by
  unfold tput
  rw [List.length_append]
  have := nput_le9 ts.length
  have := tputs_len ts [] (fun t ht => rowErr_len h ht)
  omega

end Go.Proofs.Ytnekknemjhlgdaa

namespace Go.Proofs.Ytnekknemjhlgdaa
open Go.RowKit
set_option linter.unusedVariables false
set_option linter.unusedSimpArgs false

/-- The document's Want, whatever the scan. -/
def wantK (k : Int) (is : Bool) (n : Int) : Int := if k ≠ 0 then k else if is then 0 else wantErr n
theorem rwant_any (s : List UInt8) (t k n : Int) (is : Bool) (w : World) :
    Calls Try.prog 157 #[scn s t k, .bool is, .int .i64 n] w fun e w' => e = .returned (scn s t (wantK k is n)) ∧ Bel w w' := by
  by_cases hk : k = 0
  · subst hk
    cases is
    · exact rwant_no s t n w
    · exact rwant_yes s t n w
  · have : wantK k is n = k := by unfold wantK; rw [if_pos hk]
    rw [this]
    exact rwant_bad s t k n is hk w

def prErr {α : Type} (o : PR α) : Int := match o with | .error k => k | .ok _ => 0

/-- How the document's Read ends. -/
def RdPost (s : List UInt8) (o : PR (List (List UInt8))) (w : World) (e : Ending) (w' : World) : Prop :=
  Bel w w' ∧ ∃ (t : Int) (A : Option Addr) (c : Nat) (ds : List (List UInt8)), e = .returned (.tuple #[scn s t (prErr o), .slice A ds.length c]) ∧ w'.ownsRow w.heap.size 9 1 (.slice A ds.length c) ds.length (ds.map tx) ∧ ∀ ts l, o = .ok (ts, l) → ds = ts ∧ ∃ tn : Nat, t = tn ∧ tn ≤ s.length ∧ l = s.drop tn

/-- Where the document's Read stands. -/
def RdInv (s l0 : List UInt8) (most : Int) (n k : Nat) (ds : List (List UInt8)) (was : List UInt8) (t kk : Int) : Prop :=
  (kk = 0 ∧ was.length ≤ 16 ∧ ∃ tn : Nat, t = tn ∧ tn ≤ s.length ∧ k + (s.drop tn).length ≤ 1000001 ∧ tread most l0 = ahead ds (treads was (n - k) (s.drop tn))) ∨ (kk ≠ 0 ∧ tread most l0 = .error kk)
theorem RdInv.bad {s l0 : List UInt8} {most : Int} {n k : Nat} {ds : List (List UInt8)} {was : List UInt8} {t kk : Int} (h : RdInv s l0 most n k ds was t kk) (hk : kk ≠ 0) : tread most l0 = .error kk := by
  rcases h with ⟨h, _⟩ | ⟨_, h⟩
  · exact absurd h hk
  · exact h
theorem RdInv.good {s l0 : List UInt8} {most : Int} {n k : Nat} {ds : List (List UInt8)} {was : List UInt8} {t : Int} (h : RdInv s l0 most n k ds was t 0) : was.length ≤ 16 ∧ ∃ tn : Nat, t = tn ∧ tn ≤ s.length ∧ k + (s.drop tn).length ≤ 1000001 ∧ tread most l0 = ahead ds (treads was (n - k) (s.drop tn)) := by
  rcases h with ⟨_, h⟩ | ⟨h, _⟩
  · exact h
  · exact absurd rfl h

theorem rnum0_any (s : List UInt8) (t0 : Nat) (most : Int) (hs : s.length ≤ 1000001) (ht0 : t0 ≤ s.length) (h0 : -9223372036854775808 ≤ most) (h1 : most ≤ 9223372036854775807) (w : World) :
    Calls Try.prog 96 #[scn s t0 0, .int .i64 most] w fun e w' => ∃ (n : Nat) (t kk : Int), e = .returned (.tuple #[scn s t kk, .int .i64 n]) ∧ Bel w w' ∧ (n : Int) ≤ 9223372036854775807 ∧ Hid (RdInv s (s.drop t0) most n 0 [] [] t kk) := by
  have h := rnum_any s t0 most hs ht0 h0 h1 w
  refine h.mono ?_
  rintro e w' ⟨hb, hm⟩
  cases hp : pnum most (s.drop t0) with
  | error k =>
    rw [hp] at hm
    obtain ⟨t, rfl⟩ := hm
    have := pnum_err hp
    exact ⟨0, t, k, rfl, hb, by omega, .inr ⟨by omega, by unfold tread; rw [hp]⟩⟩
  | ok q =>
    obtain ⟨n, l⟩ := q
    rw [hp] at hm
    obtain ⟨t, ht, hl, rfl⟩ := hm
    subst hl
    have := pnum_ok hp
    refine ⟨n, t, 0, rfl, hb, by omega, .inl ⟨rfl, by simp, t, rfl, ht, by simp; omega, ?_⟩⟩
    rw [ahead_nil, Nat.sub_zero]
    unfold tread
    rw [hp]

/-- A round's number; and its text. -/
def NumR (s was : List UInt8) (t : Nat) (t' k' : Int) (m : Nat) : Prop :=
  (k' ≠ 0 ∧ m = 0 ∧ tround was (s.drop t) = .error k') ∨ (k' = 0 ∧ ∃ tn : Nat, t' = tn ∧ tn ≤ s.length ∧ t < tn ∧ pnum was.length (s.drop t) = .ok (m, s.drop tn))
theorem rnumR_any (s was : List UInt8) (t : Nat) (hs : s.length ≤ 1000001) (ht : t ≤ s.length) (hw : was.length ≤ 16) (w : World) :
    Calls Try.prog 96 #[scn s t 0, .int .i64 was.length] w fun e w' => ∃ (m : Nat) (t' k' : Int), e = .returned (.tuple #[scn s t' k', .int .i64 m]) ∧ Bel w w' ∧ (m : Int) ≤ was.length ∧ Hid (NumR s was t t' k' m) := by
  refine (rnum_any s t was.length hs ht (by omega) (by omega) w).mono ?_
  rintro e w' ⟨hb, hm⟩
  cases hp : pnum was.length (s.drop t) with
  | error k =>
    rw [hp] at hm
    obtain ⟨t', rfl⟩ := hm
    have := pnum_err hp
    exact ⟨0, t', k, rfl, hb, by omega, .inl ⟨by omega, rfl, by unfold tround; rw [hp]⟩⟩
  | ok q =>
    obtain ⟨n, l⟩ := q
    rw [hp] at hm
    obtain ⟨t', ht', hl, rfl⟩ := hm
    subst hl
    have h1 := pnum_ok hp
    have h2 := pnum_lt hp
    simp only [List.length_drop] at h2
    exact ⟨n, t', 0, rfl, hb, h1.2.1, .inr ⟨rfl, t', rfl, ht', by omega, hp⟩⟩
def TxtR (s was : List UInt8) (t : Nat) (m : Nat) (t' k' : Int) (x : List UInt8) : Prop :=
  (k' ≠ 0 ∧ tround was (s.drop t) = .error k') ∨ (k' = 0 ∧ ∃ tn : Nat, t' = tn ∧ tn ≤ s.length ∧ t < tn ∧ tround was (s.drop t) = if isTerm (was.take m ++ x) && (alike was (was.take m ++ x) == m) && Op.bytesLess was (was.take m ++ x) then .ok (was.take m ++ x, s.drop tn) else .error 3)
theorem rtxtR_any (s was : List UInt8) (t : Nat) (t' k' : Int) (m : Nat) (hs : s.length ≤ 1000001) (hN : NumR s was t t' k' m) (w : World) :
    Calls Try.prog 154 #[scn s t' k', .int .i64 16] w fun e w' => ∃ (x : List UInt8) (t2 k2 : Int), e = .returned (.tuple #[scn s t2 k2, .string ⟨x.toArray⟩]) ∧ Bel w w' ∧ x.length ≤ 16 ∧ Hid (TxtR s was t m t2 k2 x) := by
  rcases hN with ⟨hk, hm, hr⟩ | ⟨rfl, tn, rfl, htn, hlt, hp⟩
  · refine (rtext_bad s t' k' 16 hk w).mono ?_
    rintro e w' ⟨rfl, hb⟩
    exact ⟨[], t', k', rfl, hb, by simp, .inl ⟨hk, hr⟩⟩
  · refine (rtext_any s tn 16 hs htn (by omega) (by omega) w).mono ?_
    rintro e w' ⟨hb, hm⟩
    cases hx : ptxt 16 (s.drop tn) with
    | error k =>
      rw [hx] at hm
      obtain ⟨t2, rfl⟩ := hm
      refine ⟨[], t2, k, rfl, hb, by simp, .inl ⟨?_, ?_⟩⟩
      · unfold ptxt at hx
        split at hx
        · rename_i h2
          injection hx with hx
          subst hx
          have := pnum_err h2
          omega
        · have := (pfix_err hx).1
          omega
      · unfold tround
        rw [hp]
        show (match ptxt 16 (s.drop tn) with | .error e => _ | .ok (x, r2) => _) = _
        rw [hx]
    | ok q =>
      obtain ⟨x, l⟩ := q
      rw [hx] at hm
      obtain ⟨t2, ht2, hl, rfl⟩ := hm
      have h1 := ptxt_ok hx
      subst hl
      simp only [List.length_drop] at h1
      refine ⟨x, t2, 0, rfl, hb, by omega, .inr ⟨rfl, t2, rfl, ht2, by omega, ?_⟩⟩
      unfold tround
      rw [hp]
      show (match ptxt 16 (s.drop tn) with | .error e => _ | .ok (x, r2) => _) = _
      rw [hx]

/-- A round of the document's Read. -/
theorem RdInv.step {s l0 : List UInt8} {most : Int} {n k : Nat} {ds : List (List UInt8)} {was : List UInt8} {t : Nat} {m : Nat} {t2 k2 : Int} {x : List UInt8} {B : Bool} (hk : k < n) (ht : t ≤ s.length) (hl : k + (s.drop t).length ≤ 1000001) (hE : tread most l0 = ahead ds (treads was (n - k) (s.drop t)))
    (hT : TxtR s was t m t2 k2 x) (hB : B = (isTerm (was.take m ++ x) && (alike was (was.take m ++ x) == m) && Op.bytesLess was (was.take m ++ x))) :
    RdInv s l0 most n (k + 1) (ds ++ [was.take m ++ x]) (was.take m ++ x) t2 (wantK k2 B 3) := by
  have hn : n - k = (n - (k + 1)) + 1 := by omega
  rw [hn] at hE
  rcases hT with ⟨h1, h2⟩ | ⟨rfl, tn, rfl, h1, h2, h3⟩
  · have : wantK k2 B 3 = k2 := by unfold wantK; rw [if_pos h1]
    rw [this]
    exact .inr ⟨h1, by rw [hE]; exact ahead_err h2⟩
  · rw [← hB] at h3
    cases B with
    | false => exact .inr ⟨by decide, by rw [hE]; exact ahead_err h3⟩
    | true =>
      refine .inl ⟨rfl, ?_, tn, rfl, h1, ?_, ?_⟩
      · have hz := hB.symm
        simp only [Bool.and_eq_true] at hz
        have := hz.1.1
        unfold isTerm at this
        simp at this
        simp
        omega
      · simp only [List.length_drop] at *
        omega
      · rw [hE]
        exact ahead_step h3

/-- Memory in the document's Read. -/
structure RdW (w : World) (s : List UInt8) (t kk : Int) (v : Value) (ds : List (List UInt8)) (wr : World) : Prop where
  bel : Bel w wr
  A : Blk wr w.heap.size 161 (scs s t kk)
  R : Blk wr (w.heap.size + 1) 161 (scs [] 0 0)
  own : wr.ownsRow (w.heap.size + 2) 9 1 v ds.length (ds.map tx)
section
variable {w w1 w2 : World} {s : List UInt8} {t kk : Int} {v : Value} {ds : List (List UInt8)}
theorem RdW.more (h : RdW w s t kk v ds w1) (hb : Bel w1 w2) : RdW w s t kk v ds w2 := ⟨h.bel.trans hb, h.A.bel hb, h.R.bel hb, own_bel h.own hb⟩
theorem RdW.setA {t' k' : Int} (h : RdW w s t kk v ds w1) (hg : w1.grownBy w2 (some w.heap.size)) (hA : Blk w2 w.heap.size 161 (scs s t' k')) : RdW w s t' k' v ds w2 :=
  ⟨h.bel.grownAt hg (Nat.le_refl _), hA, h.R.grown hg (by simp), h.own.kept hg (by
    rcases ho : v.ownBlock with _ | k
    · exact .inl rfl
    · refine .inr fun e => ?_
      injection e with e
      have := (h.own.lt k ho).1
      omega)⟩
theorem RdW.at5 {w5 : World} (h3 : RdW w s t kk v ds w1) (h : RdW w s t kk v ds w2) (hg : w2.grownBy w5 (some w1.heap.size)) : RdW w s t kk v ds w5 :=
  ⟨h.bel.grownAt hg h3.bel.size, h.A.grown hg (by have := h3.A.lt; simp; omega), h.R.grown hg (by have := h3.R.lt; simp; omega), h.own.kept hg (by
    rcases ho : v.ownBlock with _ | k
    · exact .inl rfl
    · refine .inr fun e => ?_
      injection e with e
      have := (h3.own.lt k ho).2
      omega)⟩
theorem RdW.app {v' : Value} {x : List UInt8} (h : RdW w s t kk v ds w1) (ho : w2.ownsRow (w.heap.size + 2) 9 1 v' (ds.length + 1) (ds.map tx ++ [tx x])) (hg : w1.grownBy w2 v.ownBlock) : RdW w s t kk v' (ds ++ [x]) w2 :=
  ⟨h.bel.grown hg (fun k e => by have := (h.own.lt k e).1; omega), h.A.grown hg (fun e => by have := (h.own.lt _ e.symm).1; omega), h.R.grown hg (fun e => by have := (h.own.lt _ e.symm).1; omega), by simpa using ho⟩
end

theorem own_apart {w : World} {base : Nat} {e : TypeId} {size n : Nat} {v : Value} {xs : List Value} (h : w.ownsRow base e size v n xs) {g : Nat} (hg : g < base) : v.ownBlock = none ∨ v.ownBlock ≠ some g := by
  rcases ho : v.ownBlock with _ | k
  · exact .inl rfl
  · refine .inr fun e => ?_
    injection e with e
    have := (h.lt k ho).1
    omega

set_option maxRecDepth 100000 in
set_option maxHeartbeats 1000000 in
theorem rtreadAt_any (s : List UInt8) (t0 : Nat) (most : Int) (w : World) (hs : s.length ≤ 1000001) (ht0 : t0 ≤ s.length) (m0 : -9223372036854775808 ≤ most) (m1 : most ≤ 9223372036854775807) :
    Calls Try.prog 227 #[scn s t0 0, .int .i64 most] w (RdPost s (tread most (s.drop t0)) w) := by
  go_enter Try.func227, Try.ntmps227
  go_wp2_with fail
  have bA := (Blk.new w 161 (scs s t0 0)).alloc (.cells #[.string ⟨#[]⟩, .int .i64 0, .int .i64 0] 161)
  have bB := Blk.new (w.alloc (.cells (scs s t0 0) 161)) 161 #[.string ⟨#[]⟩, .int .i64 0, .int .i64 0]
  have hW := ((Bel.refl w).alloc (.cells (scs s t0 0) 161)).alloc (.cells #[.string ⟨#[]⟩, .int .i64 0, .int .i64 0] 161)
  rw [World.size_alloc] at bB
  refine (rnum0_any s t0 most hs ht0 m0 m1 _).mono ?_; rintro e w1 ⟨n, t, kk, rfl, hb1, hn, HI⟩
  have H1 : RdW w s t0 0 (.slice none 0 0) [] w1 := ⟨hW.trans hb1, bA.bel hb1, bB.bel hb1, ⟨rfl, .inl ⟨rfl, rfl⟩⟩⟩
  have bA1 := H1.A
  have HW1 := Lib.hid H1
  clear bA bB hW hb1 H1
  go_wp2_with (((with_reducible show wpList _ _ _ (⟨_, .store _ (.tmp 2) _, _, _, _, _⟩ :: _) _ _); refine wpList_store_blk rfl rowScn (.tmp 2) (.tmp 17) rfl w.heap.size rfl bA1 rfl (scs s t kk) rfl rfl (scs_one _ _ _) ?_; intro w2 bA2 hg2; have HW2 := Lib.hid (HW1.out.setA hg2 bA2); clear bA1 bA2 hg2 HW1))
  go_loopg [7, 8, 9] n (fun g s7 s8 i wr => ∃ (k : Nat) (ds : List (List UInt8)) (was : List UInt8) (t kk : Int), g = n - k ∧ k ≤ n ∧ i = .int .i64 k ∧ s8 = .string ⟨was.toArray⟩ ∧ Hid (ds.length = k) ∧ Hid (RdW w s t kk s7 ds wr) ∧ Hid (RdInv s (s.drop t0) most n k ds was t kk))
  case atStart => exact ⟨0, [], [], t, kk, rfl, by omega, rfl, rfl, rfl, HW2, HI⟩
  case round =>
    obtain ⟨k, ds, was, t, kk, hgk, hk, rfl, rfl, hdk, H, hI⟩ := hrel
    have Hgk := Lib.hid hgk
    clear hgk HI HW2
    obtain ⟨a0, a1, a2, f0, f1, f2⟩ := H.out.A.three
    by_cases hlt : k < n
    · by_cases hk0 : kk = 0
      · subst hk0
        obtain ⟨hwas, tn, rfl, htn, hkl, hE⟩ := hI.out.good
        have HE := Lib.hid hE
        simp only [List.length_drop] at hkl
        clear hE
        go_wp2_with fail
        refine (rnumR_any s was tn hs htn hwas _).mono ?_; rintro e w3 ⟨m, t', k', rfl, hb3, hm, hN⟩
        have H3 := Lib.hid (H.out.more hb3)
        clear a0 a1 a2 f0 f1 f2 hb3 H
        have km : (0 : Int) ≤ m := by omega
        go_wp2_with (((with_reducible show wpList _ _ _ (⟨_, .store _ (.tmp 10) _, _, _, _, _⟩ :: _) _ _); refine wpList_store_new rfl rowScn (.tmp 10) (.tmp 34) rfl rfl rfl (scs s t' k') rfl rfl (scs_one _ _ _) ?_))
        refine (rtxtR_any s was tn t' k' m hs hN.out _).mono ?_; rintro e w4 ⟨x, t2, k2, rfl, hb4, hx, hT⟩
        have bq := (Blk.new w3 161 (scs s t' k')).bel hb4
        have H4 := Lib.hid ((H3.out.more ((Bel.refl _).alloc _)).more hb4)
        have hz3 : w3.heap.size < w4.heap.size := by have := hb4.size; simp at this; omega
        clear hb4 hN
        go_wp2_with (((with_reducible show wpList _ _ _ (⟨_, .store _ (.tmp 10) _, _, _, _, _⟩ :: _) _ _); refine wpList_store_blk rfl rowScn (.tmp 10) (.tmp 39) rfl w3.heap.size rfl bq rfl (scs s t2 k2) rfl rfl (scs_one _ _ _) ?_; intro w5 bq5 hg5; have H5 := Lib.hid (H3.out.at5 H4.out hg5); clear hg5 bq H4))
        simp only [str_upto, str_append]
        have hzl : (was.take m ++ x).length ≤ 32 := by simp; omega
        have HS := Lib.hid (fun B hB => RdInv.step (B := B) hlt htn (by simp; omega) HE.out hT.out hB)
        have HIS := Lib.hid (fun w => is_any (was.take m ++ x) w (by omega))
        have HAL := Lib.hid (fun w => ralike_any was (was.take m ++ x) w (by omega) (by omega))
        generalize was.take m ++ x = z at *
        have BQ := Lib.hid bq5
        clear bq5 H3 HE hT hI
        cases hT : isTerm z with
        | false =>
          rw [hT] at HIS
          replace HS := Lib.hid (HS.out false (by rw [hT]; rfl))
          refine wp_region_over_tail 16 (by kernel_rfl) (by kernel_rfl) ?_
          simp only [List.take_succ_cons, List.take_zero, List.drop_succ_cons, List.drop_zero]
          repeat (first
            | ((with_reducible show wpQuiet _ _ _ _ (⟨some 46, _, _, _, _, _⟩ :: _) _); refine wpQuiet_load_row rfl rowScn (.tmp 10) rfl w3.heap.size 0 rfl (scs s t2 k2) rfl BQ.out.lt BQ.out.range ?_; simp only [Act.put, List.setIfInBounds_toArray, List.set_cons_zero, List.set_cons_succ])
            | go_big_quiet_step ((first | (go_at_call 210; exact calls_over_same (HIS.out _)) | (go_at_call 157; exact calls_over (rwant_any s t2 k2 3 false _)))))
          refine wpQuiet_nil ?_
          rintro ⟨w6, hb6⟩
          have H6 := Lib.hid (H5.out.more hb6)
          dsimp only
          clear hb6 H5
          have bA6 := H6.out.A
          go_wp2_with (first | ((with_reducible show wpList _ _ _ (⟨_, .store _ (.tmp 2) _, _, _, _, _⟩ :: _) _ _); refine wpList_store_blk rfl rowScn (.tmp 2) (.tmp 61) rfl w.heap.size rfl bA6 rfl (scs s t2 (wantK k2 false 3)) rfl rfl (scs_one _ _ _) ?_; intro w7 bA7 hg7; have H7 := Lib.hid (H6.out.setA hg7 bA7); have hz7 := H7.out.R.lt; clear bA6 bA7 hg7 H6) | ((with_reducible show wpList _ _ _ (⟨some 65, _, _, _, _, _⟩ :: _) _ _); refine wpList_append0 rfl (.tmp 62) (.tmp 64) _ rfl E_text (w.heap.size + 2) (by simp; omega) u7 ds.length _ rfl (H7.out.more ((Bel.refl _).alloc _)).own _ 1 1 [tx z] rfl (rd_new _ _ _ 1 1 rfl) (by simp [Value.oneCell']) (by have := hdk.out; unfold maxLen; omega) (by have := hdk.out; omega) ?_; intro v8 w8 hown8 hg8 hat8))
          go_roundg (n - (k + 1))
          case rel => exact ⟨k + 1, ds ++ [z], z, t2, wantK k2 false 3, rfl, by omega, by go_num, rfl, by show _ = _; have := hdk.out; simp [this], (H7.out.more ((Bel.refl _).alloc _)).app hown8 hg8, HS⟩
          case measure => rw [Hgk.out]; omega
        | true =>
          rw [hT] at HIS
          cases hL : Op.bytesLess was z with
          | false =>
            replace HS := Lib.hid (HS.out false (by rw [hL]; simp))
            have hG := gt_less was z
            rw [hL] at hG
            refine wp_region_over_tail 16 (by kernel_rfl) (by kernel_rfl) ?_
            simp only [List.take_succ_cons, List.take_zero, List.drop_succ_cons, List.drop_zero]
            repeat (first
              | ((with_reducible show wpQuiet _ _ _ _ (⟨some 46, _, _, _, _, _⟩ :: _) _); refine wpQuiet_load_row rfl rowScn (.tmp 10) rfl w3.heap.size 0 rfl (scs s t2 k2) rfl BQ.out.lt BQ.out.range ?_; simp only [Act.put, List.setIfInBounds_toArray, List.set_cons_zero, List.set_cons_succ])
              | go_big_quiet_step ((first | (go_at_call 210; exact calls_over_same (HIS.out _)) | (go_at_call 157; exact calls_over (rwant_any s t2 k2 3 false _)))))
            refine wpQuiet_nil ?_
            rintro ⟨w6, hb6⟩
            have H6 := Lib.hid (H5.out.more hb6)
            dsimp only
            clear hb6 H5
            have bA6 := H6.out.A
            go_wp2_with (first | ((with_reducible show wpList _ _ _ (⟨_, .store _ (.tmp 2) _, _, _, _, _⟩ :: _) _ _); refine wpList_store_blk rfl rowScn (.tmp 2) (.tmp 61) rfl w.heap.size rfl bA6 rfl (scs s t2 (wantK k2 false 3)) rfl rfl (scs_one _ _ _) ?_; intro w7 bA7 hg7; have H7 := Lib.hid (H6.out.setA hg7 bA7); have hz7 := H7.out.R.lt; clear bA6 bA7 hg7 H6) | ((with_reducible show wpList _ _ _ (⟨some 65, _, _, _, _, _⟩ :: _) _ _); refine wpList_append0 rfl (.tmp 62) (.tmp 64) _ rfl E_text (w.heap.size + 2) (by simp; omega) u7 ds.length _ rfl (H7.out.more ((Bel.refl _).alloc _)).own _ 1 1 [tx z] rfl (rd_new _ _ _ 1 1 rfl) (by simp [Value.oneCell']) (by have := hdk.out; unfold maxLen; omega) (by have := hdk.out; omega) ?_; intro v8 w8 hown8 hg8 hat8))
            go_roundg (n - (k + 1))
            case rel => exact ⟨k + 1, ds ++ [z], z, t2, wantK k2 false 3, rfl, by omega, by go_num, rfl, by show _ = _; have := hdk.out; simp [this], (H7.out.more ((Bel.refl _).alloc _)).app hown8 hg8, HS⟩
            case measure => rw [Hgk.out]; omega
          | true =>
            have hG := gt_less was z
            rw [hL] at hG
            by_cases hA : alike was z = m
            · replace HS := Lib.hid (HS.out true (by rw [hT, hL, hA]; simp))
              rw [hA] at HAL
              clear hA
              refine wp_region_over_tail 16 (by kernel_rfl) (by kernel_rfl) ?_
              simp only [List.take_succ_cons, List.take_zero, List.drop_succ_cons, List.drop_zero]
              repeat (first
                | ((with_reducible show wpQuiet _ _ _ _ (⟨some 46, _, _, _, _, _⟩ :: _) _); refine wpQuiet_load_row rfl rowScn (.tmp 10) rfl w3.heap.size 0 rfl (scs s t2 k2) rfl BQ.out.lt BQ.out.range ?_; simp only [Act.put, List.setIfInBounds_toArray, List.set_cons_zero, List.set_cons_succ])
                | go_big_quiet_step ((first | (go_at_call 210; exact calls_over_same (HIS.out _)) | (go_at_call 235; exact calls_over (HAL.out _)) | (go_at_call 157; exact calls_over (rwant_any s t2 k2 3 true _)))))
              refine wpQuiet_nil ?_
              rintro ⟨w6, hb6⟩
              have H6 := Lib.hid (H5.out.more hb6)
              dsimp only
              clear hb6 H5
              have bA6 := H6.out.A
              go_wp2_with (first | ((with_reducible show wpList _ _ _ (⟨_, .store _ (.tmp 2) _, _, _, _, _⟩ :: _) _ _); refine wpList_store_blk rfl rowScn (.tmp 2) (.tmp 61) rfl w.heap.size rfl bA6 rfl (scs s t2 (wantK k2 true 3)) rfl rfl (scs_one _ _ _) ?_; intro w7 bA7 hg7; have H7 := Lib.hid (H6.out.setA hg7 bA7); have hz7 := H7.out.R.lt; clear bA6 bA7 hg7 H6) | ((with_reducible show wpList _ _ _ (⟨some 65, _, _, _, _, _⟩ :: _) _ _); refine wpList_append0 rfl (.tmp 62) (.tmp 64) _ rfl E_text (w.heap.size + 2) (by simp; omega) u7 ds.length _ rfl (H7.out.more ((Bel.refl _).alloc _)).own _ 1 1 [tx z] rfl (rd_new _ _ _ 1 1 rfl) (by simp [Value.oneCell']) (by have := hdk.out; unfold maxLen; omega) (by have := hdk.out; omega) ?_; intro v8 w8 hown8 hg8 hat8))
              go_roundg (n - (k + 1))
              case rel => exact ⟨k + 1, ds ++ [z], z, t2, wantK k2 true 3, rfl, by omega, by go_num, rfl, by show _ = _; have := hdk.out; simp [this], (H7.out.more ((Bel.refl _).alloc _)).app hown8 hg8, HS⟩
              case measure => rw [Hgk.out]; omega
            · replace HS := Lib.hid (HS.out false (by simp [hA]))
              have hA2 : ((alike was z : Int) == (m : Int)) = false := by simp; omega
              have hA3 : (alike was z == m) = false := by simp [hA]
              clear hA
              refine wp_region_over_tail 16 (by kernel_rfl) (by kernel_rfl) ?_
              simp only [List.take_succ_cons, List.take_zero, List.drop_succ_cons, List.drop_zero]
              repeat (first
                | ((with_reducible show wpQuiet _ _ _ _ (⟨some 46, _, _, _, _, _⟩ :: _) _); refine wpQuiet_load_row rfl rowScn (.tmp 10) rfl w3.heap.size 0 rfl (scs s t2 k2) rfl BQ.out.lt BQ.out.range ?_; simp only [Act.put, List.setIfInBounds_toArray, List.set_cons_zero, List.set_cons_succ])
                | go_big_quiet_step ((first | (go_at_call 210; exact calls_over_same (HIS.out _)) | (go_at_call 235; exact calls_over (HAL.out _)) | (go_at_call 157; exact calls_over (rwant_any s t2 k2 3 false _)))))
              refine wpQuiet_nil ?_
              rintro ⟨w6, hb6⟩
              have H6 := Lib.hid (H5.out.more hb6)
              dsimp only
              clear hb6 H5
              have bA6 := H6.out.A
              go_wp2_with (first | ((with_reducible show wpList _ _ _ (⟨_, .store _ (.tmp 2) _, _, _, _, _⟩ :: _) _ _); refine wpList_store_blk rfl rowScn (.tmp 2) (.tmp 61) rfl w.heap.size rfl bA6 rfl (scs s t2 (wantK k2 false 3)) rfl rfl (scs_one _ _ _) ?_; intro w7 bA7 hg7; have H7 := Lib.hid (H6.out.setA hg7 bA7); have hz7 := H7.out.R.lt; clear bA6 bA7 hg7 H6) | ((with_reducible show wpList _ _ _ (⟨some 65, _, _, _, _, _⟩ :: _) _ _); refine wpList_append0 rfl (.tmp 62) (.tmp 64) _ rfl E_text (w.heap.size + 2) (by simp; omega) u7 ds.length _ rfl (H7.out.more ((Bel.refl _).alloc _)).own _ 1 1 [tx z] rfl (rd_new _ _ _ 1 1 rfl) (by simp [Value.oneCell']) (by have := hdk.out; unfold maxLen; omega) (by have := hdk.out; omega) ?_; intro v8 w8 hown8 hg8 hat8))
              go_roundg (n - (k + 1))
              case rel => exact ⟨k + 1, ds ++ [z], z, t2, wantK k2 false 3, rfl, by omega, by go_num, rfl, by show _ = _; have := hdk.out; simp [this], (H7.out.more ((Bel.refl _).alloc _)).app hown8 hg8, HS⟩
              case measure => rw [Hgk.out]; omega
      · have d1 : (kk == 0) = false := by simpa using hk0
        have HN := Lib.hid (hI.out.bad hk0)
        have bR := H.out.R
        clear hk0 hI
        go_wp2_with (((with_reducible show wpList _ _ _ (⟨_, .store _ (.tmp 4) _, _, _, _, _⟩ :: _) _ _); refine wpList_store_blk rfl rowScn (.tmp 4) (.tmp 67) rfl (w.heap.size + 1) rfl bR rfl (scs s t kk) rfl rfl (scs_one _ _ _) ?_; intro w7 bC hg7))
        obtain ⟨A, c, rfl, _⟩ := own_slice H.out.own
        refine bodyPost_ret (results_blk rfl rowScn rfl bC rfl) rfl ?_
        rw [HN.out]
        refine ⟨H.out.bel.grownAt hg7 (by omega), t, A, c, ds, rfl, own_less (H.out.own.kept hg7 ?_) (by omega), fun ts l h => by cases h⟩
        exact own_apart H.out.own (by omega)
    · have bR := H.out.R
      obtain ⟨A, c, hv, _⟩ := own_slice H.out.own
      subst hv
      have HN : Hid (kk = prErr (tread most (s.drop t0)) ∧ ∀ ts l, tread most (s.drop t0) = .ok (ts, l) → ds = ts ∧ ∃ tn : Nat, t = tn ∧ tn ≤ s.length ∧ l = s.drop tn) := by
        show _ ∧ _
        by_cases hk0 : kk = 0
        · subst hk0
          obtain ⟨_, tn, rfl, htn, _, hE⟩ := hI.out.good
          have hE2 : tread most (s.drop t0) = .ok (ds, s.drop tn) := by rw [hE, show n - k = 0 by omega]; simp [treads, ahead]
          rw [hE2]
          refine ⟨rfl, fun ts l h => ?_⟩
          injection h with h
          injection h with h1 h2
          exact ⟨h1, tn, rfl, htn, h2.symm⟩
        · have hE2 := hI.out.bad hk0
          rw [hE2]
          exact ⟨rfl, fun ts l h => by cases h⟩
      clear hI
      go_wp2_with (((with_reducible show wpList _ _ _ (⟨_, .store _ (.tmp 4) _, _, _, _, _⟩ :: _) _ _); refine wpList_store_blk rfl rowScn (.tmp 4) (.tmp 67) rfl (w.heap.size + 1) rfl bR rfl (scs s t kk) rfl rfl (scs_one _ _ _) ?_; intro w7 bC hg7))
      refine bodyPost_ret (results_blk rfl rowScn rfl bC rfl) rfl ?_
      refine ⟨H.out.bel.grownAt hg7 (by omega), t, A, c, ds, by rw [← HN.out.1]; rfl, own_less (H.out.own.kept hg7 (own_apart H.out.own (by omega))) (by omega), HN.out.2⟩

theorem rtread_any (s : List UInt8) (most : Int) (w : World) (hs : s.length ≤ 1000001) (m0 : -9223372036854775808 ≤ most) (m1 : most ≤ 9223372036854775807) :
    Calls Try.prog 227 #[scn s 0 0, .int .i64 most] w (RdPost s (tread most s) w) := by
  have h := rtreadAt_any s 0 most w hs (by omega) m0 m1
  rw [List.drop_zero] at h
  exact h

set_option maxRecDepth 100000 in
set_option maxHeartbeats 1000000 in
theorem rtread_bad (s : List UInt8) (t k most : Int) (hk : k ≠ 0) (w : World) :
    Calls Try.prog 227 #[scn s t k, .int .i64 most] w fun e w' => e = .returned (.tuple #[scn s t k, .slice none 0 0]) ∧ Bel w w' := by
  have HK := Lib.hid hk
  clear hk
  go_enter Try.func227, Try.ntmps227
  go_wp2_with fail
  have bA := (Blk.new w 161 (scs s t k)).alloc (.cells #[.string ⟨#[]⟩, .int .i64 0, .int .i64 0] 161)
  have bB := Blk.new (w.alloc (.cells (scs s t k) 161)) 161 #[.string ⟨#[]⟩, .int .i64 0, .int .i64 0]
  have hW := ((Bel.refl w).alloc (.cells (scs s t k) 161)).alloc (.cells #[.string ⟨#[]⟩, .int .i64 0, .int .i64 0] 161)
  rw [World.size_alloc] at bB
  refine (rnum_bad s t k most HK.out _).mono ?_; rintro e w1 ⟨rfl, hb1⟩
  have H1 : RdW w s t k (.slice none 0 0) [] w1 := ⟨hW.trans hb1, bA.bel hb1, bB.bel hb1, ⟨rfl, .inl ⟨rfl, rfl⟩⟩⟩
  have bA1 := H1.A
  have HW1 := Lib.hid H1
  clear bA bB hW hb1 H1
  go_wp2_with (((with_reducible show wpList _ _ _ (⟨_, .store _ (.tmp 2) _, _, _, _, _⟩ :: _) _ _); refine wpList_store_blk rfl rowScn (.tmp 2) (.tmp 17) rfl w.heap.size rfl bA1 rfl (scs s t k) rfl rfl (scs_one _ _ _) ?_; intro w2 bA2 hg2; have HW2 := Lib.hid (HW1.out.setA hg2 bA2); clear bA1 bA2 hg2 HW1))
  go_loopg [7, 9] 0 (fun g o i wr => o = .slice none 0 0 ∧ i = .int .i64 0 ∧ wr = w2)
  case atStart => exact ⟨rfl, rfl, rfl⟩
  case round =>
    obtain ⟨rfl, rfl, rfl⟩ := hrel
    obtain ⟨a0, a1, a2, f0, f1, f2⟩ := HW2.out.A.three
    have bR := HW2.out.R
    go_wp2_with (((with_reducible show wpList _ _ _ (⟨_, .store _ (.tmp 4) _, _, _, _, _⟩ :: _) _ _); refine wpList_store_blk rfl rowScn (.tmp 4) (.tmp 67) rfl (w.heap.size + 1) rfl bR rfl (scs s t k) rfl rfl (scs_one _ _ _) ?_; intro w7 bC hg7))
    refine bodyPost_ret (results_blk rfl rowScn rfl bC rfl) rfl ?_
    exact ⟨rfl, HW2.out.bel.grownAt hg7 (by omega)⟩

end Go.Proofs.Ytnekknemjhlgdaa

namespace Go.Proofs.Ytnekknemjhlgdaa
open Go.RowKit
set_option linter.unusedVariables false
set_option linter.unusedSimpArgs false

/-- A scan stands where a reading came to. -/
def SRes {α : Type} (s : List UInt8) (o : PR α) (t k : Int) (x : α) : Prop :=
  (k ≠ 0 ∧ o = .error k) ∨ (k = 0 ∧ ∃ tn : Nat, t = tn ∧ tn ≤ s.length ∧ o = .ok (x, s.drop tn))
def pbind {α β : Type} (o : PR α) (f : α → List UInt8 → PR β) : PR β := match o with | .error e => .error e | .ok (x, r) => f x r
def pbind2 {α β : Type} (o : PR α) (f : α → β) : PR β := match o with | .error e => .error e | .ok (x, r) => .ok (f x, r)
theorem SRes.start (s : List UInt8) (tn : Nat) (h : tn ≤ s.length) : SRes s (.ok ((), s.drop tn)) tn 0 () := .inr ⟨rfl, tn, rfl, h, rfl⟩
theorem SRes.map {α β : Type} {s : List UInt8} {o : PR α} {t k : Int} {x : α} (h : SRes s o t k x) (f : α → β) : SRes s (pbind2 o f) t k (f x) := by
  rcases h with ⟨h1, h2⟩ | ⟨h1, tn, h3, h4, h2⟩
  · exact .inl ⟨h1, by rw [h2]; rfl⟩
  · exact .inr ⟨h1, tn, h3, h4, by rw [h2]; rfl⟩
theorem SPost.res {α : Type} {s : List UInt8} {o : PR α} {V : α → Value} {z : Value} {w w' : World} {e : Ending} (h : SPost s o V z w e w') (z0 : α) (hz : V z0 = z) (hk : ∀ k, o = .error k → k ≠ 0) :
    ∃ (t k : Int) (x : α), e = .returned (.tuple #[scn s t k, V x]) ∧ Bel w w' ∧ Hid (SRes s o t k x) := by
  obtain ⟨hb, hm⟩ := h
  cases o with
  | error k =>
    obtain ⟨t, rfl⟩ := hm
    exact ⟨t, k, z0, by rw [hz], hb, .inl ⟨hk k rfl, rfl⟩⟩
  | ok q =>
    obtain ⟨x, l⟩ := q
    obtain ⟨t, ht, hl, rfl⟩ := hm
    exact ⟨t, 0, x, rfl, hb, .inr ⟨rfl, t, rfl, ht, by rw [hl]⟩⟩
theorem ptxt_err {most k : Int} {l : List UInt8} (h : ptxt most l = .error k) : k = 3 ∨ k = 5 := by
  unfold ptxt at h
  split at h
  · rename_i h2
    injection h with h
    subst h
    exact pnum_err h2
  · exact .inl (pfix_err h).1

end Go.Proofs.Ytnekknemjhlgdaa
