/- The document's Take of queries. -/
import Derived.Test.YtigjghfonpfdlaaBatX
import Derived.Test.YtigjghfonpfdlaaAskT
import Derived.Test.YtigjghfonpfdlaaAskV
namespace Go.Proofs.Ytigjghfonpfdlaa
open Go.RowKit
set_option linter.unusedVariables false
set_option linter.unusedSimpArgs false

/-- Readings one behind the other, whatever the scan stands at. -/
theorem Nxt.mono {α : Type} {s : List UInt8} {p : List UInt8 → PR α} {t k t' k' : Int} {x : α} (h : Nxt s p t k t' k' x) (h0 : k' = 0) : k = 0 := by
  rcases h with ⟨h1, _, h2⟩ | ⟨h1, _⟩
  · omega
  · exact h1
theorem Nxt.st {α : Type} {s : List UInt8} {p : List UInt8 → PR α} {t k t' k' : Int} {x : α} (h : Nxt s p t k t' k' x) : k' ≠ 0 ∨ (k' = 0 ∧ ∃ tn : Nat, t' = tn ∧ tn ≤ s.length) := by
  rcases h with ⟨h1, _, h2⟩ | ⟨h1, tn, _, _, h⟩
  · exact .inl (by omega)
  · rcases h with ⟨h, _⟩ | ⟨h, tm, h2, h3, _⟩
    · exact .inl h
    · exact .inr ⟨h, tm, h2, h3⟩
/-- What is read first, and what is read by it. -/
theorem Nxt.bind {α β : Type} {s : List UInt8} {p : List UInt8 → PR α} {q : List UInt8 → PR β} {r : List UInt8 → PR β} {t k t1 k1 t2 k2 : Int} {x : α} {y : β} (h : Nxt s p t k t1 k1 x) (h2 : Nxt s q t1 k1 t2 k2 y)
    (he : ∀ l e, p l = .error e → r l = .error e) (ho : ∀ l l', p l = .ok (x, l') → r l = q l') : Nxt s r t k t2 k2 y := by
  rcases h with ⟨a1, rfl, rfl⟩ | ⟨rfl, tn, rfl, htn, h⟩
  · rcases h2 with ⟨_, rfl, rfl⟩ | ⟨b1, _⟩
    · exact .inl ⟨a1, rfl, rfl⟩
    · exact absurd b1 a1
  · refine .inr ⟨rfl, tn, rfl, htn, ?_⟩
    rcases h with ⟨a1, a2⟩ | ⟨rfl, tm, rfl, htm, a2⟩
    · rcases h2 with ⟨_, rfl, rfl⟩ | ⟨b1, _⟩
      · exact .inl ⟨a1, he _ _ a2⟩
      · exact absurd b1 a1
    · rcases h2 with ⟨b1, _⟩ | ⟨_, tm2, b2, _, h2⟩
      · exact absurd rfl b1
      · obtain rfl : tm2 = tm := by omega
        rw [ho _ _ a2]
        exact h2
/-- A value out of what was read. -/
theorem Nxt.image {α β : Type} {s : List UInt8} {p : List UInt8 → PR α} {r : List UInt8 → PR β} {t k t1 k1 : Int} {x : α} {y : β} (h : Nxt s p t k t1 k1 x) (he : ∀ l e, p l = .error e → r l = .error e) (ho : ∀ l l', p l = .ok (x, l') → r l = .ok (y, l')) : Nxt s r t k t1 k1 y := by
  rcases h with ⟨a1, rfl, rfl⟩ | ⟨rfl, tn, rfl, htn, h⟩
  · exact .inl ⟨a1, rfl, rfl⟩
  · refine .inr ⟨rfl, tn, rfl, htn, ?_⟩
    rcases h with ⟨a1, a2⟩ | ⟨rfl, tm, rfl, htm, a2⟩
    · exact .inl ⟨a1, he _ _ a2⟩
    · exact .inr ⟨rfl, tm, rfl, htm, ho _ _ a2⟩
theorem rnumN_any (s : List UInt8) (t k : Int) (most : Int) (hst : k ≠ 0 ∨ (k = 0 ∧ ∃ tn : Nat, t = tn ∧ tn ≤ s.length)) (hs : s.length ≤ 1000001) (h0 : 0 ≤ most) (h1 : most ≤ 9223372036854775807) (w : World) :
    Calls Try.prog 69 #[scn s t k, .int .i64 most] w fun e w' => ∃ (t' k' : Int) (x : Nat), e = .returned (.tuple #[scn s t' k', .int .i64 x]) ∧ Bel w w' ∧ (x : Int) ≤ most ∧ Hid (Nxt s (pnum most) t k t' k' x) := by
  rcases hst with hk | ⟨rfl, tn, rfl, htn⟩
  · refine (rnum_bad s t k most hk w).mono ?_
    rintro e w' ⟨rfl, hb⟩
    exact ⟨t, k, 0, rfl, hb, by simpa using h0, .inl ⟨hk, rfl, rfl⟩⟩
  · refine (rnum00_any s tn most hs htn h0 h1 w).mono ?_
    rintro e w' ⟨t', k', x, rfl, hb, hx, hR⟩
    exact ⟨t', k', x, rfl, hb, hx, .inr ⟨rfl, tn, rfl, htn, hR.out⟩⟩
theorem rtreadN_any (s : List UInt8) (t k : Int) (hst : k ≠ 0 ∨ (k = 0 ∧ ∃ tn : Nat, t = tn ∧ tn ≤ s.length)) (hs : s.length ≤ 1000001) (w : World) :
    Calls Try.prog 71 #[scn s t k, .int .i64 200] w fun e w' => ∃ (t' k' : Int) (A : Option Addr) (c : Nat) (ds : List (List UInt8)), e = .returned (.tuple #[scn s t' k', .slice A ds.length c]) ∧ Bel w w' ∧ w'.ownsRow w.heap.size 9 1 (.slice A ds.length c) ds.length (ds.map tx) ∧ Hid (Nxt s (tread 200) t k t' k' ds) := by
  rcases hst with hk | ⟨rfl, tn, rfl, htn⟩
  · refine (rtread_bad s t k 200 hk w).mono ?_
    rintro e w' ⟨rfl, hb⟩
    exact ⟨t, k, none, 0, [], rfl, hb, World.ownsRow_nil w' _ _ _, .inl ⟨hk, rfl, rfl⟩⟩
  · refine (rtreadAt_any s tn 200 w hs htn (by omega) (by omega)).mono ?_
    rintro e w' ⟨hb, t', A, c, ds, rfl, hown, hres⟩
    refine ⟨t', _, A, c, ds, rfl, hb, hown, .inr ⟨rfl, tn, rfl, htn, ?_⟩⟩
    cases ho : tread 200 (s.drop tn) with
    | error e => exact .inl ⟨by have := tread_err ho; show e ≠ 0; omega, rfl⟩
    | ok q =>
      obtain ⟨ts, l⟩ := q
      obtain ⟨rfl, tm, rfl, htm, rfl⟩ := hres _ _ ho
      exact .inr ⟨rfl, tm, rfl, htm, rfl⟩
theorem nxt_A {s : List UInt8} {X : List UInt8 → PR (Int × List UInt8 × List UInt8 × List (List UInt8))} {t k t1 k1 t2 k2 : Int} {f b : Nat} {tt : Int} {lo hi : List UInt8} {set : List (List UInt8)} (h : Nxt s X t k t1 k1 (tt, lo, hi, set)) (h2 : Nxt s (pnum 4) t1 k1 t2 k2 b) :
    Nxt s (fun l => ppA f (X l)) t k t2 k2 ⟨f, tt, lo, hi, set, decide (0 < b), (b : Int) - (if 0 < b then 1 else 0)⟩ :=
  h.bind (h2.image (r := fun l => ppA f (.ok ((tt, lo, hi, set), l))) (fun l e h => by unfold ppA; simp only; rw [h]) (fun l l' h => by unfold ppA; simp only; rw [h]))
    (fun l e h => by unfold ppA; rw [h]) (fun l l' h => by simp only [h])
theorem nxt_B {s : List UInt8} {X : List UInt8 → PR (Int × List UInt8 × List UInt8 × List (List UInt8))} {t k t1 k1 t2 k2 : Int} {f b : Nat} {tt : Int} {lo hi : List UInt8} {set : List (List UInt8)} (h : Nxt s X t k t1 k1 (tt, lo, hi, set)) (h2 : Nxt s (pnum 4) t1 k1 t2 k2 b) (hb : ¬ b = 0) :
    Nxt s (fun l => ppA f (X l)) t k t2 k2 ⟨f, tt, lo, hi, set, true, (b : Int) - 1⟩ := by
  have := nxt_A (f := f) h h2
  rw [if_pos (by omega), decide_eq_true (by omega)] at this
  exact this
theorem nxt_pick {s : List UInt8} {t k t1 k1 t2 k2 : Int} {f : Nat} {pc : PC} (h : Nxt s (pnum 2) t k t1 k1 f) (h2 : Nxt s (fun r => ppA f (if f = 1 then ppW r else if f = 2 then ppS r else .ok ((0, [], [], []), r))) t1 k1 t2 k2 pc) : Nxt s ppick t k t2 k2 pc :=
  h.bind h2 (fun l e h => by unfold ppick; rw [h]) (fun l l' h => by unfold ppick; rw [h])
theorem nxt_0 {s : List UInt8} {t k : Int} (hst : k ≠ 0 ∨ (k = 0 ∧ ∃ tn : Nat, t = tn ∧ tn ≤ s.length)) : Nxt s (fun r => (.ok ((0, [], [], []), r) : PR (Int × List UInt8 × List UInt8 × List (List UInt8)))) t k t k (0, [], [], []) := by
  rcases hst with hk | ⟨rfl, tn, rfl, htn⟩
  · exact .inl ⟨hk, rfl, rfl⟩
  · exact .inr ⟨rfl, tn, rfl, htn, .inr ⟨rfl, tn, rfl, htn, rfl⟩⟩
theorem nxt_W {s : List UInt8} {t k t1 k1 t2 k2 t3 k3 : Int} {tt : Nat} {lo hi : List UInt8} (h : Nxt s (pnum 3) t k t1 k1 tt) (h2 : Nxt s (ptxt 16) t1 k1 t2 k2 lo) (h3 : Nxt s (ptxt 16) t2 k2 t3 k3 hi) : Nxt s ppW t k t3 k3 ((tt : Int), lo, hi, []) :=
  h.bind (q := fun r => (match ptxt 16 r with | .error k => .error k | .ok (lo, r2) => (match ptxt 16 r2 with | .error k => .error k | .ok (hi, r3) => .ok (((tt : Int), lo, hi, []), r3))))
    (h2.bind (q := fun r2 => (match ptxt 16 r2 with | .error k => .error k | .ok (hi, r3) => .ok (((tt : Int), lo, hi, []), r3)))
      (h3.image (fun l e h => by simp only [h]) (fun l l' h => by simp only [h])) (fun l e h => by simp only [h]) (fun l l' h => by simp only [h]))
    (fun l e h => by unfold ppW; rw [h]) (fun l l' h => by unfold ppW; rw [h]; (try rfl))
theorem nxt_S {s : List UInt8} {t k t1 k1 t2 k2 : Int} {tt : Nat} {set : List (List UInt8)} (h : Nxt s (pnum 3) t k t1 k1 tt) (h2 : Nxt s (tread 200) t1 k1 t2 k2 set) : Nxt s ppS t k t2 k2 ((tt : Int), [], [], set) :=
  h.bind (q := fun r => (match tread 200 r with | .error k => .error k | .ok (set, r2) => .ok (((tt : Int), [], [], set), r2)))
    (h2.image (fun l e h => by simp only [h]) (fun l l' h => by simp only [h]))
    (fun l e h => by unfold ppS; rw [h]) (fun l l' h => by unfold ppS; rw [h]; (try rfl))
theorem Nxt.set_ok {s : List UInt8} {t k t1 k1 : Int} {set : List (List UInt8)} (h : Nxt s (tread 200) t k t1 k1 set) (h0 : k1 = 0) : set.length ≤ 200 ∧ ∀ x ∈ set, x.length ≤ 16 := by
  rcases h with ⟨h1, _, h2⟩ | ⟨h1, tn, _, _, h⟩
  · omega
  · rcases h with ⟨h, _⟩ | ⟨h, tm, h2, h3, h4⟩
    · exact absurd h0 h
    · exact ⟨by have := tread_len h4; omega, fun x hx => rowErr_len (tread_back h4).1 hx⟩

set_option maxRecDepth 100000 in
set_option maxHeartbeats 4000000 in
theorem rasktake_any (d : Sch) (s : List UInt8) (w : World) (hd : d.rd w) (hs : s.length ≤ 1000001) (hn : d.dm.n ≤ 1000000) (hm : d.ms.n ≤ 1000000) (hdd : ∀ x ∈ d.dm.l, x.tr.n ≤ 1000000 ∧ ∀ t ∈ x.tr.l, t.up.n ≤ 100000) :
    Calls Try.prog 29 #[.agg d.cs, .string ⟨s.toArray⟩] w (Tkask (asktake d.con s) w) := by
  have HC := Lib.hid (fun w' (hb : Bel w w') => schwrong_any d w' (hd.mono hb) hn hm (fun x hx => (hdd x hx).1))
  have HBC := Lib.hid (fun (X : Qr) w' (hX : X.rd w') (hb : Bel w w') (h2 : ∀ p ∈ X.ps.l, p.set.n ≤ 100000) => askwrong_any d X w' (hd.mono hb) hX hn hm hdd h2)
  have hl1 : d.con.dims.length = d.dm.n := by have : d.dm.l.length = d.dm.n := hd.dm.len; simpa using this
  have H := Lib.hid (((SL.start No w).alloc d.cs 25).alloc #[.slice none 0 0] 30)
  (try simp only [List.set_cons_zero, List.set_cons_succ, List.cons_append, List.nil_append, List.eraseIdx_cons_zero, List.eraseIdx_cons_succ, List.setIfInBounds_toArray, World.size_alloc, selR, List.getD_cons_zero, List.getD_cons_succ] at H)
  clear hd hdd
  generalize d.con = dc at HC HBC hl1 ⊢
  obtain ⟨⟨DA, n, cn, ds⟩, ⟨MB, m, cm, ms⟩⟩ := d
  simp only [Sch.cs] at *
  by_cases hE : schErr dc = 0
  · obtain ⟨_, q2, _, _, q5, _⟩ := schErr_zero hE
    have hn16 : n ≤ 16 := by omega
    have HT0 : Hid (asktake dc s = match ppicks n s with
      | .error k => ([], k)
      | .ok (q, r) => if r ≠ [] then ([], 3) else if askErr dc q = 0 then (q, 0) else ([], askErr dc q)) := by
      show _ = _
      unfold asktake
      rw [if_neg (by omega), hl1]
      rfl
    rw [hE] at HC
    clear hE q2 q5 hl1
    go_enter Try.func29, Try.ntmps29
    go_wp2_with ((with_reducible show wpList _ _ _ (⟨some 12, _, _, _, _, _⟩ :: _) _ _); (refine wpList_load_blk rfl rowSch (.tmp 2) rfl _ rfl (H.out.blk 0 rfl) rfl ?_))
    refine (HC.out _ H.out.to).mono ?_; rintro e w1 ⟨rfl, hb1⟩
    replace H := Lib.hid (H.out.bel hb1); (try simp only [List.set_cons_zero, List.set_cons_succ, List.cons_append, List.nil_append, List.eraseIdx_cons_zero, List.eraseIdx_cons_succ, List.setIfInBounds_toArray, World.size_alloc, selR, List.getD_cons_zero, List.getD_cons_succ] at H)
    clear hb1 HC
    generalize w.heap.size + 1 = y at *
    generalize w.heap.size = x at *
    have cc0 := (H.out.blk 0 rfl).cell 0; simp only [List.getElem?_toArray, List.getElem?_cons_zero, List.getElem?_cons_succ] at cc0
    go_upto_region 5 with fail
    replace H := Lib.hid (H.out.alloc #[.slice none 0 0] 30); (try simp only [List.set_cons_zero, List.set_cons_succ, List.cons_append, List.nil_append, List.eraseIdx_cons_zero, List.eraseIdx_cons_succ, List.setIfInBounds_toArray, World.size_alloc, selR, List.getD_cons_zero, List.getD_cons_succ] at H)
    replace H := Lib.hid (H.out.addNil 33 7); (try simp only [List.set_cons_zero, List.set_cons_succ, List.cons_append, List.nil_append, List.eraseIdx_cons_zero, List.eraseIdx_cons_succ, List.setIfInBounds_toArray, World.size_alloc, selR, List.getD_cons_zero, List.getD_cons_succ] at H)
    obtain ⟨k0, hk0⟩ : ∃ k0 : Int, k0 = 0 := ⟨_, rfl⟩
    replace H := Lib.hid (H.out.add (Bel.refl _) (rIf (k0 = 0) (rList rPk [])) (holds_if fun _ => holds_list_nil _ _) (fun g hg => list_nil_D g hg.2)); (try simp only [List.set_cons_zero, List.set_cons_succ, List.cons_append, List.nil_append, List.eraseIdx_cons_zero, List.eraseIdx_cons_succ, List.setIfInBounds_toArray, World.size_alloc, selR, List.getD_cons_zero, List.getD_cons_succ] at H)
    generalize w1.heap.size = g at *
    generalize World.alloc w1 _ = w2 at *
    clear cc0
    have cc0 := (H.out.blk 0 rfl).cell 0; simp only [List.getElem?_toArray, List.getElem?_cons_zero, List.getElem?_cons_succ] at cc0
    go_wp2_with ((with_reducible show wpList _ _ _ (⟨_, .store _ (.tmp 8) _, _, _, _, _⟩ :: _) _ _); (refine wpList_store_new rfl rowScn (.tmp 8) (.tmp 19) rfl rfl rfl (scs s 0 0) rfl rfl (scs_one _ _ _) ?_; replace H := Lib.hid (H.out.alloc (scs s 0 0) 121); (try simp only [List.set_cons_zero, List.set_cons_succ, List.cons_append, List.nil_append, List.eraseIdx_cons_zero, List.eraseIdx_cons_succ, List.setIfInBounds_toArray, World.size_alloc, selR, List.getD_cons_zero, List.getD_cons_succ] at H); clear cc0; have cc0 := (H.out.blk 0 rfl).cell 0; simp only [List.getElem?_toArray, List.getElem?_cons_zero, List.getElem?_cons_succ] at cc0))
    generalize w2.heap.size = a at *
    generalize World.alloc w2 _ = w3 at *
    clear cc0
    replace H := Lib.hid (H.out.sel [0, 5, 3, 4, 2, 1] (by decide) (by simp)); (try simp only [List.set_cons_zero, List.set_cons_succ, List.cons_append, List.nil_append, List.eraseIdx_cons_zero, List.eraseIdx_cons_succ, List.setIfInBounds_toArray, World.size_alloc, selR, List.getD_cons_zero, List.getD_cons_succ] at H)
    have HI : Hid (LInv s (ppicks n s) ppick n 0 (([] : List Pk).map Pk.con) 0 0) := .inr ⟨rfl, 0, rfl, Nat.zero_le _, rfl⟩
    obtain ⟨t0, ht0⟩ : ∃ t0 : Int, t0 = 0 := ⟨_, rfl⟩
    replace H : Hid (SL No w w3 [rBlk x 25 #[.slice DA n cn, .slice MB m cm], rBlk a 121 (scs s t0 k0), rRow 33 7 (.slice none 0 0) 0 (([] : List Pk).flatMap Cel.cells), rIf (k0 = 0) (rList rPk ([] : List Pk)), rBlk g 30 #[.slice none 0 0], rBlk y 30 #[.slice none 0 0]]) := (show scs s t0 k0 = scs s 0 0 by rw [ht0, hk0]) ▸ H
    replace HI : Hid (LInv s (ppicks n s) ppick n 0 (([] : List Pk).map Pk.con) t0 k0) := by rw [ht0, hk0]; exact HI
    clear hk0 ht0
    go_loopg [23] n (fun gg si wr => ∃ (k : Nat) (rows : List Pk) (B : Option Addr) (c : Nat) (t kk : Int), gg = n - k ∧ k ≤ n ∧ si = .int .i64 k ∧ Hid (rows.length = k) ∧ Hid (SL No w wr [rBlk x 25 #[.slice DA n cn, .slice MB m cm], rBlk a 121 (scs s t kk), rRow 33 7 (.slice B k c) k (rows.flatMap Cel.cells), rIf (kk = 0) (rList rPk rows), rBlk g 30 #[.slice B k c], rBlk y 30 #[.slice none 0 0]]) ∧ Hid (LInv s (ppicks n s) ppick n k (rows.map Pk.con) t kk))
    case atStart => exact ⟨0, [], none, 0, t0, k0, rfl, by omega, rfl, rfl, H, HI⟩
    case round =>
      clear H HI t0 k0
      obtain ⟨k, rows, B, c, t, kk, hgk, hk, rfl, hac, H, HI⟩ := hrel
      have Hgk := Lib.hid hgk
      have hk16 : k ≤ 16 := by omega
      clear hgk
      by_cases hlt : k < n
      · have HNx := Lib.hid (fun t' k' x (h : Nxt s ppick t kk t' k' x) => HI.out.next hlt h)
        have HSt := Lib.hid HI.out.st
        clear HI
        go_upto_region 9 with fail
        replace H := Lib.hid (H.out.alloc #[.int .i64 0, .int .i64 0, .string ⟨#[]⟩, .string ⟨#[]⟩, .slice none 0 0, .bool false, .int .i64 0] 33); (try simp only [List.set_cons_zero, List.set_cons_succ, List.cons_append, List.nil_append, List.eraseIdx_cons_zero, List.eraseIdx_cons_succ, List.setIfInBounds_toArray, World.size_alloc, selR, List.getD_cons_zero, List.getD_cons_succ] at H)
        generalize wr.heap.size = yp at *
        generalize World.alloc wr _ = w4 at *
        go_wp2_with ((with_reducible show wpList _ _ _ (⟨some 26, _, _, _, _, _⟩ :: _) _ _); (refine wpList_load_blk rfl rowScn (.tmp 8) rfl _ rfl (H.out.blk 1 rfl) rfl ?_))
        refine (rnumN_any s t kk 2 HSt.out hs (by omega) (by omega) _).mono ?_; rintro e w1 ⟨t1, k1, f, rfl, hb1, hv1, hN1⟩
        replace H := Lib.hid (H.out.bel hb1); (try simp only [List.set_cons_zero, List.set_cons_succ, List.cons_append, List.nil_append, List.eraseIdx_cons_zero, List.eraseIdx_cons_succ, List.setIfInBounds_toArray, World.size_alloc, selR, List.getD_cons_zero, List.getD_cons_succ] at H)
        clear hb1
        go_upto_region 10 with ((with_reducible show wpList _ _ _ (⟨_, .store _ (.tmp 8) _, _, _, _, _⟩ :: _) _ _); (refine wpList_store_blk rfl rowScn (.tmp 8) (.tmp 28) rfl _ rfl (H.out.blk 1 rfl) rfl (scs s t1 k1) rfl rfl (scs_one _ _ _) ?_; intro wq bq hgq; replace H := Lib.hid (H.out.setBlk 1 rfl hgq bq); (try simp only [List.set_cons_zero, List.set_cons_succ, List.cons_append, List.nil_append, List.eraseIdx_cons_zero, List.eraseIdx_cons_succ, List.setIfInBounds_toArray, World.size_alloc, selR, List.getD_cons_zero, List.getD_cons_succ] at H); clear hgq bq; have ccr := (H.out.blk 6 rfl).cell 0; simp only [List.getElem?_toArray, List.getElem?_cons_zero, List.getElem?_cons_succ] at ccr; have fcr := (H.out.blk 6 rfl).frozen 0))
        replace H := Lib.hid (H.out.setCell 6 rfl 0 (.int .i64 (f : Nat))); (try simp only [List.set_cons_zero, List.set_cons_succ, List.cons_append, List.nil_append, List.eraseIdx_cons_zero, List.eraseIdx_cons_succ, List.setIfInBounds_toArray, World.size_alloc, selR, List.getD_cons_zero, List.getD_cons_succ] at H)
        clear ccr fcr
        generalize hfi : ((f : Nat) : Int) = fi at H ⊢
        have hf3 : f = 0 ∨ f = 1 ∨ f = 2 := by omega
        have cc0 := (H.out.blk 6 rfl).cell 0; simp only [List.getElem?_toArray, List.getElem?_cons_zero, List.getElem?_cons_succ] at cc0
        rcases hf3 with rfl | rfl | rfl
        · obtain rfl : fi = 0 := by omega
          have ez : decide ((0 : Int) < 0) = false := rfl
          replace H := Lib.hid (H.out.addNil 9 1); (try simp only [List.set_cons_zero, List.set_cons_succ, List.cons_append, List.nil_append, List.eraseIdx_cons_zero, List.eraseIdx_cons_succ, List.setIfInBounds_toArray, World.size_alloc, selR, List.getD_cons_zero, List.getD_cons_succ] at H)
          have hN : Hid (Nxt s (fun r => (.ok ((0, [], [], []), r) : PR (Int × List UInt8 × List UInt8 × List (List UInt8)))) t1 k1 t1 k1 (0, [], [], [])) := nxt_0 hN1.out.st
          clear cc0
          have cc0 := (H.out.blk 6 rfl).cell 0; simp only [List.getElem?_toArray, List.getElem?_cons_zero, List.getElem?_cons_succ] at cc0
          go_wp2_with ((with_reducible show wpList _ _ _ (⟨some 65, _, _, _, _, _⟩ :: _) _ _); (refine wpList_load_blk rfl rowScn (.tmp 8) rfl _ rfl (H.out.blk 1 rfl) rfl ?_))
          clear cc0
          refine (rnumN_any s t1 k1 4 hN.out.st hs (by omega) (by omega) _).mono ?_; rintro e w9 ⟨t9, kk9, bn, rfl, hb9, hbn, hN9⟩
          replace H := Lib.hid (H.out.bel hb9); (try simp only [List.set_cons_zero, List.set_cons_succ, List.cons_append, List.nil_append, List.eraseIdx_cons_zero, List.eraseIdx_cons_succ, List.setIfInBounds_toArray, World.size_alloc, selR, List.getD_cons_zero, List.getD_cons_succ] at H)
          clear hb9
          go_upto_region 19 with (first | ((with_reducible show wpList _ _ _ (⟨_, .store _ (.tmp 10) _, _, _, _, _⟩ :: _) _ _); (refine wpList_store_new rfl rowScn (.tmp 10) (.tmp 67) rfl rfl rfl (scs s t9 kk9) rfl rfl (scs_one _ _ _) ?_; replace H := Lib.hid (H.out.alloc (scs s t9 kk9) 121); (try simp only [List.set_cons_zero, List.set_cons_succ, List.cons_append, List.nil_append, List.eraseIdx_cons_zero, List.eraseIdx_cons_succ, List.setIfInBounds_toArray, World.size_alloc, selR, List.getD_cons_zero, List.getD_cons_succ] at H))) | ((with_reducible show wpList _ _ _ (⟨some 69, _, _, _, _, _⟩ :: _) _ _); (refine wpList_load_blk rfl rowScn (.tmp 10) rfl _ rfl (H.out.blk 8 rfl) rfl ?_)) | ((with_reducible show wpList _ _ _ (⟨_, .store _ (.tmp 8) _, _, _, _, _⟩ :: _) _ _); (refine wpList_store_blk rfl rowScn (.tmp 8) (.tmp 69) rfl _ rfl (H.out.blk 1 rfl) rfl (scs s t9 kk9) rfl rfl (scs_one _ _ _) ?_; intro wq bq hgq; replace H := Lib.hid (H.out.setBlk 1 rfl hgq bq); (try simp only [List.set_cons_zero, List.set_cons_succ, List.cons_append, List.nil_append, List.eraseIdx_cons_zero, List.eraseIdx_cons_succ, List.setIfInBounds_toArray, World.size_alloc, selR, List.getD_cons_zero, List.getD_cons_succ] at H); clear hgq bq)))
          replace H := Lib.hid (H.out.sel [0, 1, 2, 3, 4, 5, 6, 7] (by decide) (by simp)); (try simp only [List.set_cons_zero, List.set_cons_succ, List.cons_append, List.nil_append, List.eraseIdx_cons_zero, List.eraseIdx_cons_succ, List.setIfInBounds_toArray, World.size_alloc, selR, List.getD_cons_zero, List.getD_cons_succ] at H)
          have HM : Hid (kk9 = 0 → kk = 0) := fun h => by have h1 := hN9.out.mono h; exact hN1.out.mono h1
          replace H : Hid (SL No w _ [rBlk x 25 #[.slice DA n cn, .slice MB m cm], rBlk a 121 (scs s t9 kk9), rRow 33 7 (.slice B k c) k (rows.flatMap Cel.cells), rIf (kk = 0) (rList rPk rows), rBlk g 30 #[.slice B k c], rBlk y 30 #[.slice none 0 0], rBlk yp 33 #[.int .i64 0, .int .i64 0, .string ⟨#[]⟩, .string ⟨#[]⟩, .slice none 0 0, .bool false, .int .i64 0], rRow 9 1 (.slice none 0 0) 0 ([].map tx)]) := H
          by_cases hb0 : bn = 0
          · subst hb0
            obtain ⟨D, hD⟩ : ∃ D : Pk, D = ⟨0, 0, [], [], ⟨none, 0, 0, []⟩, false, 0⟩ := ⟨_, rfl⟩
            have hDs : D.cs = #[.int .i64 0, .int .i64 0, .string ⟨#[]⟩, .string ⟨#[]⟩, .slice none 0 0, .bool false, .int .i64 0] := by rw [hD]
            have hDc : D.con = ⟨0, 0, [], [], [], false, 0⟩ := by rw [hD]
            have hDr : rPk D = rPk ⟨0, 0, [], [], ⟨none, 0, 0, []⟩, false, 0⟩ := by rw [hD]
            replace H := Lib.hid (H.out.turn 7 rfl (rIf (kk9 = 0) (rPk D)) (holds_if fun h0 => by rw [hDr]; exact holds_pk (H.out.get 7 rfl) (by unfold I64; omega) (by unfold I64; omega) (Nat.zero_le _) (Nat.zero_le _) (by intro x hx; cases hx) (Nat.zero_le _) (by unfold I64; omega)) (fun g hg => by have h := hg.2; rw [hD] at h; exact h)); (try simp only [List.set_cons_zero, List.set_cons_succ, List.cons_append, List.nil_append, List.eraseIdx_cons_zero, List.eraseIdx_cons_succ, List.setIfInBounds_toArray, World.size_alloc, selR, List.getD_cons_zero, List.getD_cons_succ] at H)
            rw [← hDs] at H
            have HI2 : Hid (LInv s (ppicks n s) ppick n (k + 1) ((rows ++ [D]).map Pk.con) t9 kk9) := by
              have := HNx.out t9 kk9 ⟨0, 0, [], [], [], false, 0⟩ (nxt_pick hN1.out (nxt_A (f := 0) hN.out hN9.out))
              rw [List.map_append, List.map_cons, List.map_nil, hDc]
              exact this
            clear hD hDs hDc hDr
            have cc0 := (H.out.blk 4 rfl).cell 0; simp only [List.getElem?_toArray, List.getElem?_cons_zero, List.getElem?_cons_succ] at cc0
            go_wp2_with (first | ((with_reducible show wpList _ _ _ (⟨some 78, _, _, _, _, _⟩ :: _) _ _); (refine wpList_load_blk rfl rowPk (.tmp 9) rfl _ rfl (H.out.blk 6 rfl) rfl ?_)) | ((with_reducible show wpList _ _ _ (⟨some 79, _, _, _, _, _⟩ :: _) _ _); (refine wpList_buildSlice1 rfl E_pk (.tmp 78) rfl (D.cs) rfl rfl (by omega) ?_; replace H := Lib.hid (H.out.addRow ((Bel.refl _).alloc _) (own_made _ 33 (D.cs) _ rfl)); (try simp only [List.set_cons_zero, List.set_cons_succ, List.cons_append, List.nil_append, List.eraseIdx_cons_zero, List.eraseIdx_cons_succ, List.setIfInBounds_toArray, World.size_alloc, selR, List.getD_cons_zero, List.getD_cons_succ] at H))) | ((with_reducible show wpList _ _ _ (⟨some 80, _, _, _, _, _⟩ :: _) _ _); (refine wpList_append0 rfl (.tmp 77) (.tmp 79) _ rfl E_pk 0 (Nat.zero_le _) _ k _ rfl (H.out.row 2 rfl) _ 1 1 _ rfl (Rd.of_own (H.out.row 8 rfl)) (pk1_one D) (by unfold maxLen; omega) (by omega) ?_; intro vq wq howq hgq hatq; replace H := Lib.hid (H.out.setRow 2 rfl hgq howq hatq); (try simp only [List.set_cons_zero, List.set_cons_succ, List.cons_append, List.nil_append, List.eraseIdx_cons_zero, List.eraseIdx_cons_succ, List.setIfInBounds_toArray, World.size_alloc, selR, List.getD_cons_zero, List.getD_cons_succ] at H); clear howq hgq hatq; obtain ⟨B9, c9, rfl, _⟩ := own_slice (H.out.row 2 rfl); clear cc0; have cc0 := (H.out.blk 4 rfl).cell 0; simp only [List.getElem?_toArray, List.getElem?_cons_zero, List.getElem?_cons_succ] at cc0; have fc0 := (H.out.blk 4 rfl).frozen 0)))
            replace H := Lib.hid (H.out.setCell 4 rfl 0 (.slice B9 (k + 1) c9)); (try simp only [List.set_cons_zero, List.set_cons_succ, List.cons_append, List.nil_append, List.eraseIdx_cons_zero, List.eraseIdx_cons_succ, List.setIfInBounds_toArray, World.size_alloc, selR, List.getD_cons_zero, List.getD_cons_succ] at H)
            replace H := Lib.hid (H.out.both 3 7 (by omega) rfl rfl (rIf (kk9 = 0) (rList rPk (rows ++ [D]))) (holds_if fun h0 => holds_list_snoc (holds_if_of (H.out.get 3 rfl) (HM.out h0)) (holds_if_of (H.out.get 7 rfl) h0)) (fun g hg => by rcases list_snoc_D g hg.2 with h | h; exact .inl ⟨HM.out hg.1, h⟩; exact .inr ⟨hg.1, h⟩)); (try simp only [List.set_cons_zero, List.set_cons_succ, List.cons_append, List.nil_append, List.eraseIdx_cons_zero, List.eraseIdx_cons_succ, List.setIfInBounds_toArray, World.size_alloc, selR, List.getD_cons_zero, List.getD_cons_succ] at H)
            replace H := Lib.hid (H.out.sel [0, 1, 2, 3, 4, 5] (by decide) (by simp)); (try simp only [List.set_cons_zero, List.set_cons_succ, List.cons_append, List.nil_append, List.eraseIdx_cons_zero, List.eraseIdx_cons_succ, List.setIfInBounds_toArray, World.size_alloc, selR, List.getD_cons_zero, List.getD_cons_succ] at H)
            clear cc0 fc0
            go_wp2_with fail
            go_roundg (n - (k + 1))
            case rel => exact ⟨k + 1, rows ++ [D], B9, c9, t9, kk9, rfl, by omega, by go_num, by show _ = _; rw [List.length_append, hac.out]; rfl, by rw [List.flatMap_append, List.flatMap_cons, List.flatMap_nil, List.append_nil]; exact H, HI2⟩
            case measure => rw [Hgk.out]; omega
          · have d1 : decide ((0 : Int) < (bn : Int)) = true := by simp <;> omega
            have d2 : decide (0 < bn) = true := by simp <;> omega
            have wz : IntKind.i64.wrap ((bn : Int) - 1) = (bn : Int) - 1 := IntWalk.i64_in _ (by omega)
            have cc5 := (H.out.blk 6 rfl).cell 5; simp only [List.getElem?_toArray, List.getElem?_cons_zero, List.getElem?_cons_succ] at cc5; have fc5 := (H.out.blk 6 rfl).frozen 5
            have cc6 := (H.out.blk 6 rfl).cell 6; simp only [List.getElem?_toArray, List.getElem?_cons_zero, List.getElem?_cons_succ] at cc6; have fc6 := (H.out.blk 6 rfl).frozen 6
            go_upto_region 22 with fail
            replace H := Lib.hid (H.out.setCell 6 rfl 5 (.bool true)); (try simp only [List.set_cons_zero, List.set_cons_succ, List.cons_append, List.nil_append, List.eraseIdx_cons_zero, List.eraseIdx_cons_succ, List.setIfInBounds_toArray, World.size_alloc, selR, List.getD_cons_zero, List.getD_cons_succ] at H)
            replace H := Lib.hid (H.out.setCell 6 rfl 6 (.int .i64 ((bn : Int) - 1))); (try simp only [List.set_cons_zero, List.set_cons_succ, List.cons_append, List.nil_append, List.eraseIdx_cons_zero, List.eraseIdx_cons_succ, List.setIfInBounds_toArray, World.size_alloc, selR, List.getD_cons_zero, List.getD_cons_succ] at H)
            clear cc5 cc6 fc5 fc6
            obtain ⟨D, hD⟩ : ∃ D : Pk, D = ⟨0, 0, [], [], ⟨none, 0, 0, []⟩, true, ((bn : Int) - 1)⟩ := ⟨_, rfl⟩
            have hDs : D.cs = #[.int .i64 0, .int .i64 0, .string ⟨#[]⟩, .string ⟨#[]⟩, .slice none 0 0, .bool true, .int .i64 ((bn : Int) - 1)] := by rw [hD]
            have hDc : D.con = ⟨0, 0, [], [], [], true, ((bn : Int) - 1)⟩ := by rw [hD]
            have hDr : rPk D = rPk ⟨0, 0, [], [], ⟨none, 0, 0, []⟩, true, ((bn : Int) - 1)⟩ := by rw [hD]
            replace H := Lib.hid (H.out.turn 7 rfl (rIf (kk9 = 0) (rPk D)) (holds_if fun h0 => by rw [hDr]; exact holds_pk (H.out.get 7 rfl) (by unfold I64; omega) (by unfold I64; omega) (Nat.zero_le _) (Nat.zero_le _) (by intro x hx; cases hx) (Nat.zero_le _) (by unfold I64; omega)) (fun g hg => by have h := hg.2; rw [hD] at h; exact h)); (try simp only [List.set_cons_zero, List.set_cons_succ, List.cons_append, List.nil_append, List.eraseIdx_cons_zero, List.eraseIdx_cons_succ, List.setIfInBounds_toArray, World.size_alloc, selR, List.getD_cons_zero, List.getD_cons_succ] at H)
            rw [← hDs] at H
            have HI2 : Hid (LInv s (ppicks n s) ppick n (k + 1) ((rows ++ [D]).map Pk.con) t9 kk9) := by
              have := HNx.out t9 kk9 ⟨0, 0, [], [], [], true, ((bn : Int) - 1)⟩ (nxt_pick hN1.out (nxt_B (f := 0) hN.out hN9.out hb0))
              rw [List.map_append, List.map_cons, List.map_nil, hDc]
              exact this
            clear hD hDs hDc hDr
            have cc0 := (H.out.blk 4 rfl).cell 0; simp only [List.getElem?_toArray, List.getElem?_cons_zero, List.getElem?_cons_succ] at cc0
            go_wp2_with (first | ((with_reducible show wpList _ _ _ (⟨some 78, _, _, _, _, _⟩ :: _) _ _); (refine wpList_load_blk rfl rowPk (.tmp 9) rfl _ rfl (H.out.blk 6 rfl) rfl ?_)) | ((with_reducible show wpList _ _ _ (⟨some 79, _, _, _, _, _⟩ :: _) _ _); (refine wpList_buildSlice1 rfl E_pk (.tmp 78) rfl (D.cs) rfl rfl (by omega) ?_; replace H := Lib.hid (H.out.addRow ((Bel.refl _).alloc _) (own_made _ 33 (D.cs) _ rfl)); (try simp only [List.set_cons_zero, List.set_cons_succ, List.cons_append, List.nil_append, List.eraseIdx_cons_zero, List.eraseIdx_cons_succ, List.setIfInBounds_toArray, World.size_alloc, selR, List.getD_cons_zero, List.getD_cons_succ] at H))) | ((with_reducible show wpList _ _ _ (⟨some 80, _, _, _, _, _⟩ :: _) _ _); (refine wpList_append0 rfl (.tmp 77) (.tmp 79) _ rfl E_pk 0 (Nat.zero_le _) _ k _ rfl (H.out.row 2 rfl) _ 1 1 _ rfl (Rd.of_own (H.out.row 8 rfl)) (pk1_one D) (by unfold maxLen; omega) (by omega) ?_; intro vq wq howq hgq hatq; replace H := Lib.hid (H.out.setRow 2 rfl hgq howq hatq); (try simp only [List.set_cons_zero, List.set_cons_succ, List.cons_append, List.nil_append, List.eraseIdx_cons_zero, List.eraseIdx_cons_succ, List.setIfInBounds_toArray, World.size_alloc, selR, List.getD_cons_zero, List.getD_cons_succ] at H); clear howq hgq hatq; obtain ⟨B9, c9, rfl, _⟩ := own_slice (H.out.row 2 rfl); clear cc0; have cc0 := (H.out.blk 4 rfl).cell 0; simp only [List.getElem?_toArray, List.getElem?_cons_zero, List.getElem?_cons_succ] at cc0; have fc0 := (H.out.blk 4 rfl).frozen 0)))
            replace H := Lib.hid (H.out.setCell 4 rfl 0 (.slice B9 (k + 1) c9)); (try simp only [List.set_cons_zero, List.set_cons_succ, List.cons_append, List.nil_append, List.eraseIdx_cons_zero, List.eraseIdx_cons_succ, List.setIfInBounds_toArray, World.size_alloc, selR, List.getD_cons_zero, List.getD_cons_succ] at H)
            replace H := Lib.hid (H.out.both 3 7 (by omega) rfl rfl (rIf (kk9 = 0) (rList rPk (rows ++ [D]))) (holds_if fun h0 => holds_list_snoc (holds_if_of (H.out.get 3 rfl) (HM.out h0)) (holds_if_of (H.out.get 7 rfl) h0)) (fun g hg => by rcases list_snoc_D g hg.2 with h | h; exact .inl ⟨HM.out hg.1, h⟩; exact .inr ⟨hg.1, h⟩)); (try simp only [List.set_cons_zero, List.set_cons_succ, List.cons_append, List.nil_append, List.eraseIdx_cons_zero, List.eraseIdx_cons_succ, List.setIfInBounds_toArray, World.size_alloc, selR, List.getD_cons_zero, List.getD_cons_succ] at H)
            replace H := Lib.hid (H.out.sel [0, 1, 2, 3, 4, 5] (by decide) (by simp)); (try simp only [List.set_cons_zero, List.set_cons_succ, List.cons_append, List.nil_append, List.eraseIdx_cons_zero, List.eraseIdx_cons_succ, List.setIfInBounds_toArray, World.size_alloc, selR, List.getD_cons_zero, List.getD_cons_succ] at H)
            clear cc0 fc0
            go_wp2_with fail
            go_roundg (n - (k + 1))
            case rel => exact ⟨k + 1, rows ++ [D], B9, c9, t9, kk9, rfl, by omega, by go_num, by show _ = _; rw [List.length_append, hac.out]; rfl, by rw [List.flatMap_append, List.flatMap_cons, List.flatMap_nil, List.append_nil]; exact H, HI2⟩
            case measure => rw [Hgk.out]; omega
        · obtain rfl : fi = 1 := by omega
          have ez : decide ((0 : Int) < 1) = true := rfl
          go_wp2_with ((with_reducible show wpList _ _ _ (⟨some 35, _, _, _, _, _⟩ :: _) _ _); (refine wpList_load_blk rfl rowScn (.tmp 8) rfl _ rfl (H.out.blk 1 rfl) rfl ?_))
          refine (rnumN_any s t1 k1 3 hN1.out.st hs (by omega) (by omega) _).mono ?_; rintro e w2 ⟨t2, k2, tt, rfl, hb2, hv2, hN2⟩
          replace H := Lib.hid (H.out.bel hb2); (try simp only [List.set_cons_zero, List.set_cons_succ, List.cons_append, List.nil_append, List.eraseIdx_cons_zero, List.eraseIdx_cons_succ, List.setIfInBounds_toArray, World.size_alloc, selR, List.getD_cons_zero, List.getD_cons_succ] at H)
          clear hb2
          go_upto_region 12 with ((with_reducible show wpList _ _ _ (⟨_, .store _ (.tmp 8) _, _, _, _, _⟩ :: _) _ _); (refine wpList_store_blk rfl rowScn (.tmp 8) (.tmp 37) rfl _ rfl (H.out.blk 1 rfl) rfl (scs s t2 k2) rfl rfl (scs_one _ _ _) ?_; intro wq bq hgq; replace H := Lib.hid (H.out.setBlk 1 rfl hgq bq); (try simp only [List.set_cons_zero, List.set_cons_succ, List.cons_append, List.nil_append, List.eraseIdx_cons_zero, List.eraseIdx_cons_succ, List.setIfInBounds_toArray, World.size_alloc, selR, List.getD_cons_zero, List.getD_cons_succ] at H); clear hgq bq; have ccr := (H.out.blk 6 rfl).cell 1; simp only [List.getElem?_toArray, List.getElem?_cons_zero, List.getElem?_cons_succ] at ccr; have fcr := (H.out.blk 6 rfl).frozen 1))
          replace H := Lib.hid (H.out.setCell 6 rfl 1 (.int .i64 (tt : Nat))); (try simp only [List.set_cons_zero, List.set_cons_succ, List.cons_append, List.nil_append, List.eraseIdx_cons_zero, List.eraseIdx_cons_succ, List.setIfInBounds_toArray, World.size_alloc, selR, List.getD_cons_zero, List.getD_cons_succ] at H)
          clear ccr fcr
          clear cc0
          have cc0 := (H.out.blk 6 rfl).cell 0; simp only [List.getElem?_toArray, List.getElem?_cons_zero, List.getElem?_cons_succ] at cc0
          go_wp2_with ((with_reducible show wpList _ _ _ (⟨some 44, _, _, _, _, _⟩ :: _) _ _); (refine wpList_load_blk rfl rowScn (.tmp 8) rfl _ rfl (H.out.blk 1 rfl) rfl ?_))
          refine (rtextN_any s t2 k2 16 hN2.out.st hs (by omega) (by omega) _).mono ?_; rintro e w3 ⟨t3, k3, lo, rfl, hb3, hv3, hN3⟩
          replace H := Lib.hid (H.out.bel hb3); (try simp only [List.set_cons_zero, List.set_cons_succ, List.cons_append, List.nil_append, List.eraseIdx_cons_zero, List.eraseIdx_cons_succ, List.setIfInBounds_toArray, World.size_alloc, selR, List.getD_cons_zero, List.getD_cons_succ] at H)
          clear hb3
          go_upto_region 14 with ((with_reducible show wpList _ _ _ (⟨_, .store _ (.tmp 8) _, _, _, _, _⟩ :: _) _ _); (refine wpList_store_blk rfl rowScn (.tmp 8) (.tmp 46) rfl _ rfl (H.out.blk 1 rfl) rfl (scs s t3 k3) rfl rfl (scs_one _ _ _) ?_; intro wq bq hgq; replace H := Lib.hid (H.out.setBlk 1 rfl hgq bq); (try simp only [List.set_cons_zero, List.set_cons_succ, List.cons_append, List.nil_append, List.eraseIdx_cons_zero, List.eraseIdx_cons_succ, List.setIfInBounds_toArray, World.size_alloc, selR, List.getD_cons_zero, List.getD_cons_succ] at H); clear hgq bq; have ccr := (H.out.blk 6 rfl).cell 2; simp only [List.getElem?_toArray, List.getElem?_cons_zero, List.getElem?_cons_succ] at ccr; have fcr := (H.out.blk 6 rfl).frozen 2))
          replace H := Lib.hid (H.out.setCell 6 rfl 2 (.string ⟨lo.toArray⟩)); (try simp only [List.set_cons_zero, List.set_cons_succ, List.cons_append, List.nil_append, List.eraseIdx_cons_zero, List.eraseIdx_cons_succ, List.setIfInBounds_toArray, World.size_alloc, selR, List.getD_cons_zero, List.getD_cons_succ] at H)
          clear ccr fcr
          go_wp2_with ((with_reducible show wpList _ _ _ (⟨some 50, _, _, _, _, _⟩ :: _) _ _); (refine wpList_load_blk rfl rowScn (.tmp 8) rfl _ rfl (H.out.blk 1 rfl) rfl ?_))
          refine (rtextN_any s t3 k3 16 hN3.out.st hs (by omega) (by omega) _).mono ?_; rintro e w4 ⟨t4, k4, hi, rfl, hb4, hv4, hN4⟩
          replace H := Lib.hid (H.out.bel hb4); (try simp only [List.set_cons_zero, List.set_cons_succ, List.cons_append, List.nil_append, List.eraseIdx_cons_zero, List.eraseIdx_cons_succ, List.setIfInBounds_toArray, World.size_alloc, selR, List.getD_cons_zero, List.getD_cons_succ] at H)
          clear hb4
          go_upto_region 15 with ((with_reducible show wpList _ _ _ (⟨_, .store _ (.tmp 8) _, _, _, _, _⟩ :: _) _ _); (refine wpList_store_blk rfl rowScn (.tmp 8) (.tmp 52) rfl _ rfl (H.out.blk 1 rfl) rfl (scs s t4 k4) rfl rfl (scs_one _ _ _) ?_; intro wq bq hgq; replace H := Lib.hid (H.out.setBlk 1 rfl hgq bq); (try simp only [List.set_cons_zero, List.set_cons_succ, List.cons_append, List.nil_append, List.eraseIdx_cons_zero, List.eraseIdx_cons_succ, List.setIfInBounds_toArray, World.size_alloc, selR, List.getD_cons_zero, List.getD_cons_succ] at H); clear hgq bq; have ccr := (H.out.blk 6 rfl).cell 3; simp only [List.getElem?_toArray, List.getElem?_cons_zero, List.getElem?_cons_succ] at ccr; have fcr := (H.out.blk 6 rfl).frozen 3))
          replace H := Lib.hid (H.out.setCell 6 rfl 3 (.string ⟨hi.toArray⟩)); (try simp only [List.set_cons_zero, List.set_cons_succ, List.cons_append, List.nil_append, List.eraseIdx_cons_zero, List.eraseIdx_cons_succ, List.setIfInBounds_toArray, World.size_alloc, selR, List.getD_cons_zero, List.getD_cons_succ] at H)
          clear ccr fcr
          replace H := Lib.hid (H.out.addNil 9 1); (try simp only [List.set_cons_zero, List.set_cons_succ, List.cons_append, List.nil_append, List.eraseIdx_cons_zero, List.eraseIdx_cons_succ, List.setIfInBounds_toArray, World.size_alloc, selR, List.getD_cons_zero, List.getD_cons_succ] at H)
          have hN : Hid (Nxt s ppW t1 k1 t4 k4 ((tt : Int), lo, hi, [])) := nxt_W hN2.out hN3.out hN4.out
          clear cc0
          have cc0 := (H.out.blk 6 rfl).cell 0; simp only [List.getElem?_toArray, List.getElem?_cons_zero, List.getElem?_cons_succ] at cc0
          go_wp2_with ((with_reducible show wpList _ _ _ (⟨some 65, _, _, _, _, _⟩ :: _) _ _); (refine wpList_load_blk rfl rowScn (.tmp 8) rfl _ rfl (H.out.blk 1 rfl) rfl ?_))
          clear cc0
          refine (rnumN_any s t4 k4 4 hN.out.st hs (by omega) (by omega) _).mono ?_; rintro e w9 ⟨t9, kk9, bn, rfl, hb9, hbn, hN9⟩
          replace H := Lib.hid (H.out.bel hb9); (try simp only [List.set_cons_zero, List.set_cons_succ, List.cons_append, List.nil_append, List.eraseIdx_cons_zero, List.eraseIdx_cons_succ, List.setIfInBounds_toArray, World.size_alloc, selR, List.getD_cons_zero, List.getD_cons_succ] at H)
          clear hb9
          go_upto_region 19 with (first | ((with_reducible show wpList _ _ _ (⟨_, .store _ (.tmp 10) _, _, _, _, _⟩ :: _) _ _); (refine wpList_store_new rfl rowScn (.tmp 10) (.tmp 67) rfl rfl rfl (scs s t9 kk9) rfl rfl (scs_one _ _ _) ?_; replace H := Lib.hid (H.out.alloc (scs s t9 kk9) 121); (try simp only [List.set_cons_zero, List.set_cons_succ, List.cons_append, List.nil_append, List.eraseIdx_cons_zero, List.eraseIdx_cons_succ, List.setIfInBounds_toArray, World.size_alloc, selR, List.getD_cons_zero, List.getD_cons_succ] at H))) | ((with_reducible show wpList _ _ _ (⟨some 69, _, _, _, _, _⟩ :: _) _ _); (refine wpList_load_blk rfl rowScn (.tmp 10) rfl _ rfl (H.out.blk 8 rfl) rfl ?_)) | ((with_reducible show wpList _ _ _ (⟨_, .store _ (.tmp 8) _, _, _, _, _⟩ :: _) _ _); (refine wpList_store_blk rfl rowScn (.tmp 8) (.tmp 69) rfl _ rfl (H.out.blk 1 rfl) rfl (scs s t9 kk9) rfl rfl (scs_one _ _ _) ?_; intro wq bq hgq; replace H := Lib.hid (H.out.setBlk 1 rfl hgq bq); (try simp only [List.set_cons_zero, List.set_cons_succ, List.cons_append, List.nil_append, List.eraseIdx_cons_zero, List.eraseIdx_cons_succ, List.setIfInBounds_toArray, World.size_alloc, selR, List.getD_cons_zero, List.getD_cons_succ] at H); clear hgq bq)))
          replace H := Lib.hid (H.out.sel [0, 1, 2, 3, 4, 5, 6, 7] (by decide) (by simp)); (try simp only [List.set_cons_zero, List.set_cons_succ, List.cons_append, List.nil_append, List.eraseIdx_cons_zero, List.eraseIdx_cons_succ, List.setIfInBounds_toArray, World.size_alloc, selR, List.getD_cons_zero, List.getD_cons_succ] at H)
          have HM : Hid (kk9 = 0 → kk = 0) := fun h => by have h1 := hN9.out.mono h; exact hN1.out.mono (hN.out.mono h1)
          replace H : Hid (SL No w _ [rBlk x 25 #[.slice DA n cn, .slice MB m cm], rBlk a 121 (scs s t9 kk9), rRow 33 7 (.slice B k c) k (rows.flatMap Cel.cells), rIf (kk = 0) (rList rPk rows), rBlk g 30 #[.slice B k c], rBlk y 30 #[.slice none 0 0], rBlk yp 33 #[.int .i64 1, .int .i64 (tt : Int), .string ⟨lo.toArray⟩, .string ⟨hi.toArray⟩, .slice none 0 0, .bool false, .int .i64 0], rRow 9 1 (.slice none 0 0) 0 ([].map tx)]) := H
          by_cases hb0 : bn = 0
          · subst hb0
            obtain ⟨D, hD⟩ : ∃ D : Pk, D = ⟨1, (tt : Int), lo, hi, ⟨none, 0, 0, []⟩, false, 0⟩ := ⟨_, rfl⟩
            have hDs : D.cs = #[.int .i64 1, .int .i64 (tt : Int), .string ⟨lo.toArray⟩, .string ⟨hi.toArray⟩, .slice none 0 0, .bool false, .int .i64 0] := by rw [hD]
            have hDc : D.con = ⟨1, (tt : Int), lo, hi, [], false, 0⟩ := by rw [hD]
            have hDr : rPk D = rPk ⟨1, (tt : Int), lo, hi, ⟨none, 0, 0, []⟩, false, 0⟩ := by rw [hD]
            replace H := Lib.hid (H.out.turn 7 rfl (rIf (kk9 = 0) (rPk D)) (holds_if fun h0 => by rw [hDr]; exact holds_pk (H.out.get 7 rfl) (by unfold I64; omega) (by unfold I64; omega) (by omega) (by omega) (by intro x hx; cases hx) (Nat.zero_le _) (by unfold I64; omega)) (fun g hg => by have h := hg.2; rw [hD] at h; exact h)); (try simp only [List.set_cons_zero, List.set_cons_succ, List.cons_append, List.nil_append, List.eraseIdx_cons_zero, List.eraseIdx_cons_succ, List.setIfInBounds_toArray, World.size_alloc, selR, List.getD_cons_zero, List.getD_cons_succ] at H)
            rw [← hDs] at H
            have HI2 : Hid (LInv s (ppicks n s) ppick n (k + 1) ((rows ++ [D]).map Pk.con) t9 kk9) := by
              have := HNx.out t9 kk9 ⟨1, (tt : Int), lo, hi, [], false, 0⟩ (nxt_pick hN1.out (nxt_A (f := 1) hN.out hN9.out))
              rw [List.map_append, List.map_cons, List.map_nil, hDc]
              exact this
            clear hD hDs hDc hDr
            have cc0 := (H.out.blk 4 rfl).cell 0; simp only [List.getElem?_toArray, List.getElem?_cons_zero, List.getElem?_cons_succ] at cc0
            go_wp2_with (first | ((with_reducible show wpList _ _ _ (⟨some 78, _, _, _, _, _⟩ :: _) _ _); (refine wpList_load_blk rfl rowPk (.tmp 9) rfl _ rfl (H.out.blk 6 rfl) rfl ?_)) | ((with_reducible show wpList _ _ _ (⟨some 79, _, _, _, _, _⟩ :: _) _ _); (refine wpList_buildSlice1 rfl E_pk (.tmp 78) rfl (D.cs) rfl rfl (by omega) ?_; replace H := Lib.hid (H.out.addRow ((Bel.refl _).alloc _) (own_made _ 33 (D.cs) _ rfl)); (try simp only [List.set_cons_zero, List.set_cons_succ, List.cons_append, List.nil_append, List.eraseIdx_cons_zero, List.eraseIdx_cons_succ, List.setIfInBounds_toArray, World.size_alloc, selR, List.getD_cons_zero, List.getD_cons_succ] at H))) | ((with_reducible show wpList _ _ _ (⟨some 80, _, _, _, _, _⟩ :: _) _ _); (refine wpList_append0 rfl (.tmp 77) (.tmp 79) _ rfl E_pk 0 (Nat.zero_le _) _ k _ rfl (H.out.row 2 rfl) _ 1 1 _ rfl (Rd.of_own (H.out.row 8 rfl)) (pk1_one D) (by unfold maxLen; omega) (by omega) ?_; intro vq wq howq hgq hatq; replace H := Lib.hid (H.out.setRow 2 rfl hgq howq hatq); (try simp only [List.set_cons_zero, List.set_cons_succ, List.cons_append, List.nil_append, List.eraseIdx_cons_zero, List.eraseIdx_cons_succ, List.setIfInBounds_toArray, World.size_alloc, selR, List.getD_cons_zero, List.getD_cons_succ] at H); clear howq hgq hatq; obtain ⟨B9, c9, rfl, _⟩ := own_slice (H.out.row 2 rfl); clear cc0; have cc0 := (H.out.blk 4 rfl).cell 0; simp only [List.getElem?_toArray, List.getElem?_cons_zero, List.getElem?_cons_succ] at cc0; have fc0 := (H.out.blk 4 rfl).frozen 0)))
            replace H := Lib.hid (H.out.setCell 4 rfl 0 (.slice B9 (k + 1) c9)); (try simp only [List.set_cons_zero, List.set_cons_succ, List.cons_append, List.nil_append, List.eraseIdx_cons_zero, List.eraseIdx_cons_succ, List.setIfInBounds_toArray, World.size_alloc, selR, List.getD_cons_zero, List.getD_cons_succ] at H)
            replace H := Lib.hid (H.out.both 3 7 (by omega) rfl rfl (rIf (kk9 = 0) (rList rPk (rows ++ [D]))) (holds_if fun h0 => holds_list_snoc (holds_if_of (H.out.get 3 rfl) (HM.out h0)) (holds_if_of (H.out.get 7 rfl) h0)) (fun g hg => by rcases list_snoc_D g hg.2 with h | h; exact .inl ⟨HM.out hg.1, h⟩; exact .inr ⟨hg.1, h⟩)); (try simp only [List.set_cons_zero, List.set_cons_succ, List.cons_append, List.nil_append, List.eraseIdx_cons_zero, List.eraseIdx_cons_succ, List.setIfInBounds_toArray, World.size_alloc, selR, List.getD_cons_zero, List.getD_cons_succ] at H)
            replace H := Lib.hid (H.out.sel [0, 1, 2, 3, 4, 5] (by decide) (by simp)); (try simp only [List.set_cons_zero, List.set_cons_succ, List.cons_append, List.nil_append, List.eraseIdx_cons_zero, List.eraseIdx_cons_succ, List.setIfInBounds_toArray, World.size_alloc, selR, List.getD_cons_zero, List.getD_cons_succ] at H)
            clear cc0 fc0
            go_wp2_with fail
            go_roundg (n - (k + 1))
            case rel => exact ⟨k + 1, rows ++ [D], B9, c9, t9, kk9, rfl, by omega, by go_num, by show _ = _; rw [List.length_append, hac.out]; rfl, by rw [List.flatMap_append, List.flatMap_cons, List.flatMap_nil, List.append_nil]; exact H, HI2⟩
            case measure => rw [Hgk.out]; omega
          · have d1 : decide ((0 : Int) < (bn : Int)) = true := by simp <;> omega
            have d2 : decide (0 < bn) = true := by simp <;> omega
            have wz : IntKind.i64.wrap ((bn : Int) - 1) = (bn : Int) - 1 := IntWalk.i64_in _ (by omega)
            have cc5 := (H.out.blk 6 rfl).cell 5; simp only [List.getElem?_toArray, List.getElem?_cons_zero, List.getElem?_cons_succ] at cc5; have fc5 := (H.out.blk 6 rfl).frozen 5
            have cc6 := (H.out.blk 6 rfl).cell 6; simp only [List.getElem?_toArray, List.getElem?_cons_zero, List.getElem?_cons_succ] at cc6; have fc6 := (H.out.blk 6 rfl).frozen 6
            go_upto_region 22 with fail
            replace H := Lib.hid (H.out.setCell 6 rfl 5 (.bool true)); (try simp only [List.set_cons_zero, List.set_cons_succ, List.cons_append, List.nil_append, List.eraseIdx_cons_zero, List.eraseIdx_cons_succ, List.setIfInBounds_toArray, World.size_alloc, selR, List.getD_cons_zero, List.getD_cons_succ] at H)
            replace H := Lib.hid (H.out.setCell 6 rfl 6 (.int .i64 ((bn : Int) - 1))); (try simp only [List.set_cons_zero, List.set_cons_succ, List.cons_append, List.nil_append, List.eraseIdx_cons_zero, List.eraseIdx_cons_succ, List.setIfInBounds_toArray, World.size_alloc, selR, List.getD_cons_zero, List.getD_cons_succ] at H)
            clear cc5 cc6 fc5 fc6
            obtain ⟨D, hD⟩ : ∃ D : Pk, D = ⟨1, (tt : Int), lo, hi, ⟨none, 0, 0, []⟩, true, ((bn : Int) - 1)⟩ := ⟨_, rfl⟩
            have hDs : D.cs = #[.int .i64 1, .int .i64 (tt : Int), .string ⟨lo.toArray⟩, .string ⟨hi.toArray⟩, .slice none 0 0, .bool true, .int .i64 ((bn : Int) - 1)] := by rw [hD]
            have hDc : D.con = ⟨1, (tt : Int), lo, hi, [], true, ((bn : Int) - 1)⟩ := by rw [hD]
            have hDr : rPk D = rPk ⟨1, (tt : Int), lo, hi, ⟨none, 0, 0, []⟩, true, ((bn : Int) - 1)⟩ := by rw [hD]
            replace H := Lib.hid (H.out.turn 7 rfl (rIf (kk9 = 0) (rPk D)) (holds_if fun h0 => by rw [hDr]; exact holds_pk (H.out.get 7 rfl) (by unfold I64; omega) (by unfold I64; omega) (by omega) (by omega) (by intro x hx; cases hx) (Nat.zero_le _) (by unfold I64; omega)) (fun g hg => by have h := hg.2; rw [hD] at h; exact h)); (try simp only [List.set_cons_zero, List.set_cons_succ, List.cons_append, List.nil_append, List.eraseIdx_cons_zero, List.eraseIdx_cons_succ, List.setIfInBounds_toArray, World.size_alloc, selR, List.getD_cons_zero, List.getD_cons_succ] at H)
            rw [← hDs] at H
            have HI2 : Hid (LInv s (ppicks n s) ppick n (k + 1) ((rows ++ [D]).map Pk.con) t9 kk9) := by
              have := HNx.out t9 kk9 ⟨1, (tt : Int), lo, hi, [], true, ((bn : Int) - 1)⟩ (nxt_pick hN1.out (nxt_B (f := 1) hN.out hN9.out hb0))
              rw [List.map_append, List.map_cons, List.map_nil, hDc]
              exact this
            clear hD hDs hDc hDr
            have cc0 := (H.out.blk 4 rfl).cell 0; simp only [List.getElem?_toArray, List.getElem?_cons_zero, List.getElem?_cons_succ] at cc0
            go_wp2_with (first | ((with_reducible show wpList _ _ _ (⟨some 78, _, _, _, _, _⟩ :: _) _ _); (refine wpList_load_blk rfl rowPk (.tmp 9) rfl _ rfl (H.out.blk 6 rfl) rfl ?_)) | ((with_reducible show wpList _ _ _ (⟨some 79, _, _, _, _, _⟩ :: _) _ _); (refine wpList_buildSlice1 rfl E_pk (.tmp 78) rfl (D.cs) rfl rfl (by omega) ?_; replace H := Lib.hid (H.out.addRow ((Bel.refl _).alloc _) (own_made _ 33 (D.cs) _ rfl)); (try simp only [List.set_cons_zero, List.set_cons_succ, List.cons_append, List.nil_append, List.eraseIdx_cons_zero, List.eraseIdx_cons_succ, List.setIfInBounds_toArray, World.size_alloc, selR, List.getD_cons_zero, List.getD_cons_succ] at H))) | ((with_reducible show wpList _ _ _ (⟨some 80, _, _, _, _, _⟩ :: _) _ _); (refine wpList_append0 rfl (.tmp 77) (.tmp 79) _ rfl E_pk 0 (Nat.zero_le _) _ k _ rfl (H.out.row 2 rfl) _ 1 1 _ rfl (Rd.of_own (H.out.row 8 rfl)) (pk1_one D) (by unfold maxLen; omega) (by omega) ?_; intro vq wq howq hgq hatq; replace H := Lib.hid (H.out.setRow 2 rfl hgq howq hatq); (try simp only [List.set_cons_zero, List.set_cons_succ, List.cons_append, List.nil_append, List.eraseIdx_cons_zero, List.eraseIdx_cons_succ, List.setIfInBounds_toArray, World.size_alloc, selR, List.getD_cons_zero, List.getD_cons_succ] at H); clear howq hgq hatq; obtain ⟨B9, c9, rfl, _⟩ := own_slice (H.out.row 2 rfl); clear cc0; have cc0 := (H.out.blk 4 rfl).cell 0; simp only [List.getElem?_toArray, List.getElem?_cons_zero, List.getElem?_cons_succ] at cc0; have fc0 := (H.out.blk 4 rfl).frozen 0)))
            replace H := Lib.hid (H.out.setCell 4 rfl 0 (.slice B9 (k + 1) c9)); (try simp only [List.set_cons_zero, List.set_cons_succ, List.cons_append, List.nil_append, List.eraseIdx_cons_zero, List.eraseIdx_cons_succ, List.setIfInBounds_toArray, World.size_alloc, selR, List.getD_cons_zero, List.getD_cons_succ] at H)
            replace H := Lib.hid (H.out.both 3 7 (by omega) rfl rfl (rIf (kk9 = 0) (rList rPk (rows ++ [D]))) (holds_if fun h0 => holds_list_snoc (holds_if_of (H.out.get 3 rfl) (HM.out h0)) (holds_if_of (H.out.get 7 rfl) h0)) (fun g hg => by rcases list_snoc_D g hg.2 with h | h; exact .inl ⟨HM.out hg.1, h⟩; exact .inr ⟨hg.1, h⟩)); (try simp only [List.set_cons_zero, List.set_cons_succ, List.cons_append, List.nil_append, List.eraseIdx_cons_zero, List.eraseIdx_cons_succ, List.setIfInBounds_toArray, World.size_alloc, selR, List.getD_cons_zero, List.getD_cons_succ] at H)
            replace H := Lib.hid (H.out.sel [0, 1, 2, 3, 4, 5] (by decide) (by simp)); (try simp only [List.set_cons_zero, List.set_cons_succ, List.cons_append, List.nil_append, List.eraseIdx_cons_zero, List.eraseIdx_cons_succ, List.setIfInBounds_toArray, World.size_alloc, selR, List.getD_cons_zero, List.getD_cons_succ] at H)
            clear cc0 fc0
            go_wp2_with fail
            go_roundg (n - (k + 1))
            case rel => exact ⟨k + 1, rows ++ [D], B9, c9, t9, kk9, rfl, by omega, by go_num, by show _ = _; rw [List.length_append, hac.out]; rfl, by rw [List.flatMap_append, List.flatMap_cons, List.flatMap_nil, List.append_nil]; exact H, HI2⟩
            case measure => rw [Hgk.out]; omega
        · obtain rfl : fi = 2 := by omega
          have ez : decide ((0 : Int) < 2) = true := rfl
          go_wp2_with ((with_reducible show wpList _ _ _ (⟨some 35, _, _, _, _, _⟩ :: _) _ _); (refine wpList_load_blk rfl rowScn (.tmp 8) rfl _ rfl (H.out.blk 1 rfl) rfl ?_))
          refine (rnumN_any s t1 k1 3 hN1.out.st hs (by omega) (by omega) _).mono ?_; rintro e w2 ⟨t2, k2, tt, rfl, hb2, hv2, hN2⟩
          replace H := Lib.hid (H.out.bel hb2); (try simp only [List.set_cons_zero, List.set_cons_succ, List.cons_append, List.nil_append, List.eraseIdx_cons_zero, List.eraseIdx_cons_succ, List.setIfInBounds_toArray, World.size_alloc, selR, List.getD_cons_zero, List.getD_cons_succ] at H)
          clear hb2
          go_upto_region 12 with ((with_reducible show wpList _ _ _ (⟨_, .store _ (.tmp 8) _, _, _, _, _⟩ :: _) _ _); (refine wpList_store_blk rfl rowScn (.tmp 8) (.tmp 37) rfl _ rfl (H.out.blk 1 rfl) rfl (scs s t2 k2) rfl rfl (scs_one _ _ _) ?_; intro wq bq hgq; replace H := Lib.hid (H.out.setBlk 1 rfl hgq bq); (try simp only [List.set_cons_zero, List.set_cons_succ, List.cons_append, List.nil_append, List.eraseIdx_cons_zero, List.eraseIdx_cons_succ, List.setIfInBounds_toArray, World.size_alloc, selR, List.getD_cons_zero, List.getD_cons_succ] at H); clear hgq bq; have ccr := (H.out.blk 6 rfl).cell 1; simp only [List.getElem?_toArray, List.getElem?_cons_zero, List.getElem?_cons_succ] at ccr; have fcr := (H.out.blk 6 rfl).frozen 1))
          replace H := Lib.hid (H.out.setCell 6 rfl 1 (.int .i64 (tt : Nat))); (try simp only [List.set_cons_zero, List.set_cons_succ, List.cons_append, List.nil_append, List.eraseIdx_cons_zero, List.eraseIdx_cons_succ, List.setIfInBounds_toArray, World.size_alloc, selR, List.getD_cons_zero, List.getD_cons_succ] at H)
          clear ccr fcr
          clear cc0
          have cc0 := (H.out.blk 6 rfl).cell 0; simp only [List.getElem?_toArray, List.getElem?_cons_zero, List.getElem?_cons_succ] at cc0
          go_wp2_with ((with_reducible show wpList _ _ _ (⟨some 59, _, _, _, _, _⟩ :: _) _ _); (refine wpList_load_blk rfl rowScn (.tmp 8) rfl _ rfl (H.out.blk 1 rfl) rfl ?_))
          refine (rtreadN_any s t2 k2 hN2.out.st hs _).mono ?_; rintro e w3' ⟨t3, k3, SA, SCC, set, rfl, hb3, hown, hN3⟩
          replace H := Lib.hid (H.out.addRow hb3 hown); (try simp only [List.set_cons_zero, List.set_cons_succ, List.cons_append, List.nil_append, List.eraseIdx_cons_zero, List.eraseIdx_cons_succ, List.setIfInBounds_toArray, World.size_alloc, selR, List.getD_cons_zero, List.getD_cons_succ] at H)
          clear hb3 hown
          go_upto_region 17 with ((with_reducible show wpList _ _ _ (⟨_, .store _ (.tmp 8) _, _, _, _, _⟩ :: _) _ _); (refine wpList_store_blk rfl rowScn (.tmp 8) (.tmp 61) rfl _ rfl (H.out.blk 1 rfl) rfl (scs s t3 k3) rfl rfl (scs_one _ _ _) ?_; intro wq bq hgq; replace H := Lib.hid (H.out.setBlk 1 rfl hgq bq); (try simp only [List.set_cons_zero, List.set_cons_succ, List.cons_append, List.nil_append, List.eraseIdx_cons_zero, List.eraseIdx_cons_succ, List.setIfInBounds_toArray, World.size_alloc, selR, List.getD_cons_zero, List.getD_cons_succ] at H); clear hgq bq; have cc4 := (H.out.blk 6 rfl).cell 4; simp only [List.getElem?_toArray, List.getElem?_cons_zero, List.getElem?_cons_succ] at cc4; have fc4 := (H.out.blk 6 rfl).frozen 4))
          replace H := Lib.hid (H.out.setCell 6 rfl 4 (.slice SA set.length SCC)); (try simp only [List.set_cons_zero, List.set_cons_succ, List.cons_append, List.nil_append, List.eraseIdx_cons_zero, List.eraseIdx_cons_succ, List.setIfInBounds_toArray, World.size_alloc, selR, List.getD_cons_zero, List.getD_cons_succ] at H)
          clear cc4 fc4
          have hN : Hid (Nxt s ppS t1 k1 t3 k3 ((tt : Int), [], [], set)) := nxt_S hN2.out hN3.out
          clear cc0
          have cc0 := (H.out.blk 6 rfl).cell 0; simp only [List.getElem?_toArray, List.getElem?_cons_zero, List.getElem?_cons_succ] at cc0
          go_wp2_with ((with_reducible show wpList _ _ _ (⟨some 65, _, _, _, _, _⟩ :: _) _ _); (refine wpList_load_blk rfl rowScn (.tmp 8) rfl _ rfl (H.out.blk 1 rfl) rfl ?_))
          clear cc0
          refine (rnumN_any s t3 k3 4 hN.out.st hs (by omega) (by omega) _).mono ?_; rintro e w9 ⟨t9, kk9, bn, rfl, hb9, hbn, hN9⟩
          replace H := Lib.hid (H.out.bel hb9); (try simp only [List.set_cons_zero, List.set_cons_succ, List.cons_append, List.nil_append, List.eraseIdx_cons_zero, List.eraseIdx_cons_succ, List.setIfInBounds_toArray, World.size_alloc, selR, List.getD_cons_zero, List.getD_cons_succ] at H)
          clear hb9
          go_upto_region 19 with (first | ((with_reducible show wpList _ _ _ (⟨_, .store _ (.tmp 10) _, _, _, _, _⟩ :: _) _ _); (refine wpList_store_new rfl rowScn (.tmp 10) (.tmp 67) rfl rfl rfl (scs s t9 kk9) rfl rfl (scs_one _ _ _) ?_; replace H := Lib.hid (H.out.alloc (scs s t9 kk9) 121); (try simp only [List.set_cons_zero, List.set_cons_succ, List.cons_append, List.nil_append, List.eraseIdx_cons_zero, List.eraseIdx_cons_succ, List.setIfInBounds_toArray, World.size_alloc, selR, List.getD_cons_zero, List.getD_cons_succ] at H))) | ((with_reducible show wpList _ _ _ (⟨some 69, _, _, _, _, _⟩ :: _) _ _); (refine wpList_load_blk rfl rowScn (.tmp 10) rfl _ rfl (H.out.blk 8 rfl) rfl ?_)) | ((with_reducible show wpList _ _ _ (⟨_, .store _ (.tmp 8) _, _, _, _, _⟩ :: _) _ _); (refine wpList_store_blk rfl rowScn (.tmp 8) (.tmp 69) rfl _ rfl (H.out.blk 1 rfl) rfl (scs s t9 kk9) rfl rfl (scs_one _ _ _) ?_; intro wq bq hgq; replace H := Lib.hid (H.out.setBlk 1 rfl hgq bq); (try simp only [List.set_cons_zero, List.set_cons_succ, List.cons_append, List.nil_append, List.eraseIdx_cons_zero, List.eraseIdx_cons_succ, List.setIfInBounds_toArray, World.size_alloc, selR, List.getD_cons_zero, List.getD_cons_succ] at H); clear hgq bq)))
          replace H := Lib.hid (H.out.sel [0, 1, 2, 3, 4, 5, 6, 7] (by decide) (by simp)); (try simp only [List.set_cons_zero, List.set_cons_succ, List.cons_append, List.nil_append, List.eraseIdx_cons_zero, List.eraseIdx_cons_succ, List.setIfInBounds_toArray, World.size_alloc, selR, List.getD_cons_zero, List.getD_cons_succ] at H)
          have HM : Hid (kk9 = 0 → kk = 0) := fun h => by have h1 := hN9.out.mono h; exact hN1.out.mono (hN.out.mono h1)
          replace H : Hid (SL No w _ [rBlk x 25 #[.slice DA n cn, .slice MB m cm], rBlk a 121 (scs s t9 kk9), rRow 33 7 (.slice B k c) k (rows.flatMap Cel.cells), rIf (kk = 0) (rList rPk rows), rBlk g 30 #[.slice B k c], rBlk y 30 #[.slice none 0 0], rBlk yp 33 #[.int .i64 2, .int .i64 (tt : Int), .string ⟨#[]⟩, .string ⟨#[]⟩, .slice SA set.length SCC, .bool false, .int .i64 0], rRow 9 1 (.slice SA set.length SCC) set.length (set.map tx)]) := H
          by_cases hb0 : bn = 0
          · subst hb0
            obtain ⟨D, hD⟩ : ∃ D : Pk, D = ⟨2, (tt : Int), [], [], ⟨SA, set.length, SCC, set⟩, false, 0⟩ := ⟨_, rfl⟩
            have hDs : D.cs = #[.int .i64 2, .int .i64 (tt : Int), .string ⟨#[]⟩, .string ⟨#[]⟩, .slice SA set.length SCC, .bool false, .int .i64 0] := by rw [hD]
            have hDc : D.con = ⟨2, (tt : Int), [], [], set, false, 0⟩ := by rw [hD]
            have hDr : rPk D = rPk ⟨2, (tt : Int), [], [], ⟨SA, set.length, SCC, set⟩, false, 0⟩ := by rw [hD]
            replace H := Lib.hid (H.out.turn 7 rfl (rIf (kk9 = 0) (rPk D)) (holds_if fun h0 => by rw [hDr]; exact holds_pk (H.out.get 7 rfl) (by unfold I64; omega) (by unfold I64; omega) (Nat.zero_le _) (Nat.zero_le _) (hN3.out.set_ok (hN9.out.mono h0)).2 (hN3.out.set_ok (hN9.out.mono h0)).1 (by unfold I64; omega)) (fun g hg => by have h := hg.2; rw [hD] at h; exact h)); (try simp only [List.set_cons_zero, List.set_cons_succ, List.cons_append, List.nil_append, List.eraseIdx_cons_zero, List.eraseIdx_cons_succ, List.setIfInBounds_toArray, World.size_alloc, selR, List.getD_cons_zero, List.getD_cons_succ] at H)
            rw [← hDs] at H
            have HI2 : Hid (LInv s (ppicks n s) ppick n (k + 1) ((rows ++ [D]).map Pk.con) t9 kk9) := by
              have := HNx.out t9 kk9 ⟨2, (tt : Int), [], [], set, false, 0⟩ (nxt_pick hN1.out (nxt_A (f := 2) hN.out hN9.out))
              rw [List.map_append, List.map_cons, List.map_nil, hDc]
              exact this
            clear hD hDs hDc hDr
            have cc0 := (H.out.blk 4 rfl).cell 0; simp only [List.getElem?_toArray, List.getElem?_cons_zero, List.getElem?_cons_succ] at cc0
            go_wp2_with (first | ((with_reducible show wpList _ _ _ (⟨some 78, _, _, _, _, _⟩ :: _) _ _); (refine wpList_load_blk rfl rowPk (.tmp 9) rfl _ rfl (H.out.blk 6 rfl) rfl ?_)) | ((with_reducible show wpList _ _ _ (⟨some 79, _, _, _, _, _⟩ :: _) _ _); (refine wpList_buildSlice1 rfl E_pk (.tmp 78) rfl (D.cs) rfl rfl (by omega) ?_; replace H := Lib.hid (H.out.addRow ((Bel.refl _).alloc _) (own_made _ 33 (D.cs) _ rfl)); (try simp only [List.set_cons_zero, List.set_cons_succ, List.cons_append, List.nil_append, List.eraseIdx_cons_zero, List.eraseIdx_cons_succ, List.setIfInBounds_toArray, World.size_alloc, selR, List.getD_cons_zero, List.getD_cons_succ] at H))) | ((with_reducible show wpList _ _ _ (⟨some 80, _, _, _, _, _⟩ :: _) _ _); (refine wpList_append0 rfl (.tmp 77) (.tmp 79) _ rfl E_pk 0 (Nat.zero_le _) _ k _ rfl (H.out.row 2 rfl) _ 1 1 _ rfl (Rd.of_own (H.out.row 8 rfl)) (pk1_one D) (by unfold maxLen; omega) (by omega) ?_; intro vq wq howq hgq hatq; replace H := Lib.hid (H.out.setRow 2 rfl hgq howq hatq); (try simp only [List.set_cons_zero, List.set_cons_succ, List.cons_append, List.nil_append, List.eraseIdx_cons_zero, List.eraseIdx_cons_succ, List.setIfInBounds_toArray, World.size_alloc, selR, List.getD_cons_zero, List.getD_cons_succ] at H); clear howq hgq hatq; obtain ⟨B9, c9, rfl, _⟩ := own_slice (H.out.row 2 rfl); clear cc0; have cc0 := (H.out.blk 4 rfl).cell 0; simp only [List.getElem?_toArray, List.getElem?_cons_zero, List.getElem?_cons_succ] at cc0; have fc0 := (H.out.blk 4 rfl).frozen 0)))
            replace H := Lib.hid (H.out.setCell 4 rfl 0 (.slice B9 (k + 1) c9)); (try simp only [List.set_cons_zero, List.set_cons_succ, List.cons_append, List.nil_append, List.eraseIdx_cons_zero, List.eraseIdx_cons_succ, List.setIfInBounds_toArray, World.size_alloc, selR, List.getD_cons_zero, List.getD_cons_succ] at H)
            replace H := Lib.hid (H.out.both 3 7 (by omega) rfl rfl (rIf (kk9 = 0) (rList rPk (rows ++ [D]))) (holds_if fun h0 => holds_list_snoc (holds_if_of (H.out.get 3 rfl) (HM.out h0)) (holds_if_of (H.out.get 7 rfl) h0)) (fun g hg => by rcases list_snoc_D g hg.2 with h | h; exact .inl ⟨HM.out hg.1, h⟩; exact .inr ⟨hg.1, h⟩)); (try simp only [List.set_cons_zero, List.set_cons_succ, List.cons_append, List.nil_append, List.eraseIdx_cons_zero, List.eraseIdx_cons_succ, List.setIfInBounds_toArray, World.size_alloc, selR, List.getD_cons_zero, List.getD_cons_succ] at H)
            replace H := Lib.hid (H.out.sel [0, 1, 2, 3, 4, 5] (by decide) (by simp)); (try simp only [List.set_cons_zero, List.set_cons_succ, List.cons_append, List.nil_append, List.eraseIdx_cons_zero, List.eraseIdx_cons_succ, List.setIfInBounds_toArray, World.size_alloc, selR, List.getD_cons_zero, List.getD_cons_succ] at H)
            clear cc0 fc0
            go_wp2_with fail
            go_roundg (n - (k + 1))
            case rel => exact ⟨k + 1, rows ++ [D], B9, c9, t9, kk9, rfl, by omega, by go_num, by show _ = _; rw [List.length_append, hac.out]; rfl, by rw [List.flatMap_append, List.flatMap_cons, List.flatMap_nil, List.append_nil]; exact H, HI2⟩
            case measure => rw [Hgk.out]; omega
          · have d1 : decide ((0 : Int) < (bn : Int)) = true := by simp <;> omega
            have d2 : decide (0 < bn) = true := by simp <;> omega
            have wz : IntKind.i64.wrap ((bn : Int) - 1) = (bn : Int) - 1 := IntWalk.i64_in _ (by omega)
            have cc5 := (H.out.blk 6 rfl).cell 5; simp only [List.getElem?_toArray, List.getElem?_cons_zero, List.getElem?_cons_succ] at cc5; have fc5 := (H.out.blk 6 rfl).frozen 5
            have cc6 := (H.out.blk 6 rfl).cell 6; simp only [List.getElem?_toArray, List.getElem?_cons_zero, List.getElem?_cons_succ] at cc6; have fc6 := (H.out.blk 6 rfl).frozen 6
            go_upto_region 22 with fail
            replace H := Lib.hid (H.out.setCell 6 rfl 5 (.bool true)); (try simp only [List.set_cons_zero, List.set_cons_succ, List.cons_append, List.nil_append, List.eraseIdx_cons_zero, List.eraseIdx_cons_succ, List.setIfInBounds_toArray, World.size_alloc, selR, List.getD_cons_zero, List.getD_cons_succ] at H)
            replace H := Lib.hid (H.out.setCell 6 rfl 6 (.int .i64 ((bn : Int) - 1))); (try simp only [List.set_cons_zero, List.set_cons_succ, List.cons_append, List.nil_append, List.eraseIdx_cons_zero, List.eraseIdx_cons_succ, List.setIfInBounds_toArray, World.size_alloc, selR, List.getD_cons_zero, List.getD_cons_succ] at H)
            clear cc5 cc6 fc5 fc6
            obtain ⟨D, hD⟩ : ∃ D : Pk, D = ⟨2, (tt : Int), [], [], ⟨SA, set.length, SCC, set⟩, true, ((bn : Int) - 1)⟩ := ⟨_, rfl⟩
            have hDs : D.cs = #[.int .i64 2, .int .i64 (tt : Int), .string ⟨#[]⟩, .string ⟨#[]⟩, .slice SA set.length SCC, .bool true, .int .i64 ((bn : Int) - 1)] := by rw [hD]
            have hDc : D.con = ⟨2, (tt : Int), [], [], set, true, ((bn : Int) - 1)⟩ := by rw [hD]
            have hDr : rPk D = rPk ⟨2, (tt : Int), [], [], ⟨SA, set.length, SCC, set⟩, true, ((bn : Int) - 1)⟩ := by rw [hD]
            replace H := Lib.hid (H.out.turn 7 rfl (rIf (kk9 = 0) (rPk D)) (holds_if fun h0 => by rw [hDr]; exact holds_pk (H.out.get 7 rfl) (by unfold I64; omega) (by unfold I64; omega) (Nat.zero_le _) (Nat.zero_le _) (hN3.out.set_ok (hN9.out.mono h0)).2 (hN3.out.set_ok (hN9.out.mono h0)).1 (by unfold I64; omega)) (fun g hg => by have h := hg.2; rw [hD] at h; exact h)); (try simp only [List.set_cons_zero, List.set_cons_succ, List.cons_append, List.nil_append, List.eraseIdx_cons_zero, List.eraseIdx_cons_succ, List.setIfInBounds_toArray, World.size_alloc, selR, List.getD_cons_zero, List.getD_cons_succ] at H)
            rw [← hDs] at H
            have HI2 : Hid (LInv s (ppicks n s) ppick n (k + 1) ((rows ++ [D]).map Pk.con) t9 kk9) := by
              have := HNx.out t9 kk9 ⟨2, (tt : Int), [], [], set, true, ((bn : Int) - 1)⟩ (nxt_pick hN1.out (nxt_B (f := 2) hN.out hN9.out hb0))
              rw [List.map_append, List.map_cons, List.map_nil, hDc]
              exact this
            clear hD hDs hDc hDr
            have cc0 := (H.out.blk 4 rfl).cell 0; simp only [List.getElem?_toArray, List.getElem?_cons_zero, List.getElem?_cons_succ] at cc0
            go_wp2_with (first | ((with_reducible show wpList _ _ _ (⟨some 78, _, _, _, _, _⟩ :: _) _ _); (refine wpList_load_blk rfl rowPk (.tmp 9) rfl _ rfl (H.out.blk 6 rfl) rfl ?_)) | ((with_reducible show wpList _ _ _ (⟨some 79, _, _, _, _, _⟩ :: _) _ _); (refine wpList_buildSlice1 rfl E_pk (.tmp 78) rfl (D.cs) rfl rfl (by omega) ?_; replace H := Lib.hid (H.out.addRow ((Bel.refl _).alloc _) (own_made _ 33 (D.cs) _ rfl)); (try simp only [List.set_cons_zero, List.set_cons_succ, List.cons_append, List.nil_append, List.eraseIdx_cons_zero, List.eraseIdx_cons_succ, List.setIfInBounds_toArray, World.size_alloc, selR, List.getD_cons_zero, List.getD_cons_succ] at H))) | ((with_reducible show wpList _ _ _ (⟨some 80, _, _, _, _, _⟩ :: _) _ _); (refine wpList_append0 rfl (.tmp 77) (.tmp 79) _ rfl E_pk 0 (Nat.zero_le _) _ k _ rfl (H.out.row 2 rfl) _ 1 1 _ rfl (Rd.of_own (H.out.row 8 rfl)) (pk1_one D) (by unfold maxLen; omega) (by omega) ?_; intro vq wq howq hgq hatq; replace H := Lib.hid (H.out.setRow 2 rfl hgq howq hatq); (try simp only [List.set_cons_zero, List.set_cons_succ, List.cons_append, List.nil_append, List.eraseIdx_cons_zero, List.eraseIdx_cons_succ, List.setIfInBounds_toArray, World.size_alloc, selR, List.getD_cons_zero, List.getD_cons_succ] at H); clear howq hgq hatq; obtain ⟨B9, c9, rfl, _⟩ := own_slice (H.out.row 2 rfl); clear cc0; have cc0 := (H.out.blk 4 rfl).cell 0; simp only [List.getElem?_toArray, List.getElem?_cons_zero, List.getElem?_cons_succ] at cc0; have fc0 := (H.out.blk 4 rfl).frozen 0)))
            replace H := Lib.hid (H.out.setCell 4 rfl 0 (.slice B9 (k + 1) c9)); (try simp only [List.set_cons_zero, List.set_cons_succ, List.cons_append, List.nil_append, List.eraseIdx_cons_zero, List.eraseIdx_cons_succ, List.setIfInBounds_toArray, World.size_alloc, selR, List.getD_cons_zero, List.getD_cons_succ] at H)
            replace H := Lib.hid (H.out.both 3 7 (by omega) rfl rfl (rIf (kk9 = 0) (rList rPk (rows ++ [D]))) (holds_if fun h0 => holds_list_snoc (holds_if_of (H.out.get 3 rfl) (HM.out h0)) (holds_if_of (H.out.get 7 rfl) h0)) (fun g hg => by rcases list_snoc_D g hg.2 with h | h; exact .inl ⟨HM.out hg.1, h⟩; exact .inr ⟨hg.1, h⟩)); (try simp only [List.set_cons_zero, List.set_cons_succ, List.cons_append, List.nil_append, List.eraseIdx_cons_zero, List.eraseIdx_cons_succ, List.setIfInBounds_toArray, World.size_alloc, selR, List.getD_cons_zero, List.getD_cons_succ] at H)
            replace H := Lib.hid (H.out.sel [0, 1, 2, 3, 4, 5] (by decide) (by simp)); (try simp only [List.set_cons_zero, List.set_cons_succ, List.cons_append, List.nil_append, List.eraseIdx_cons_zero, List.eraseIdx_cons_succ, List.setIfInBounds_toArray, World.size_alloc, selR, List.getD_cons_zero, List.getD_cons_succ] at H)
            clear cc0 fc0
            go_wp2_with fail
            go_roundg (n - (k + 1))
            case rel => exact ⟨k + 1, rows ++ [D], B9, c9, t9, kk9, rfl, by omega, by go_num, by show _ = _; rw [List.length_append, hac.out]; rfl, by rw [List.flatMap_append, List.flatMap_cons, List.flatMap_nil, List.append_nil]; exact H, HI2⟩
            case measure => rw [Hgk.out]; omega
      · have HSR := Lib.hid (HI.out.done (.inr (by omega)))
        clear HI
        go_wp2_with ((with_reducible show wpList _ _ _ (⟨some 83, _, _, _, _, _⟩ :: _) _ _); (refine wpList_load_blk rfl rowScn (.tmp 8) rfl _ rfl (H.out.blk 1 rfl) rfl ?_))
        refine (rend_any s t kk _).mono ?_; rintro e w7 ⟨rfl, hb7⟩
        replace H := Lib.hid (H.out.bel hb7); (try simp only [List.set_cons_zero, List.set_cons_succ, List.cons_append, List.nil_append, List.eraseIdx_cons_zero, List.eraseIdx_cons_succ, List.setIfInBounds_toArray, World.size_alloc, selR, List.getD_cons_zero, List.getD_cons_succ] at H)
        clear hb7
        by_cases hkk : kk = 0
        · subst hkk
          obtain ⟨tn, rfl, htn, hP⟩ := HSR.out.good
          replace H := Lib.hid (H.out.both 2 3 (by omega) rfl rfl (rQry ⟨B, k, c, rows⟩) (holds_qry (H.out.get 2 rfl) (holds_if_of (H.out.get 3 rfl) rfl) hk16) (fun g hg => hg.elim (fun h => .inl h) (fun h => .inr ⟨rfl, h⟩))); (try simp only [List.set_cons_zero, List.set_cons_succ, List.cons_append, List.nil_append, List.eraseIdx_cons_zero, List.eraseIdx_cons_succ, List.setIfInBounds_toArray, World.size_alloc, selR, List.getD_cons_zero, List.getD_cons_succ] at H)
          by_cases hr : s.drop tn = []
          · have HT1 : Hid (asktake dc s = if askErr dc (rows.map Pk.con) = 0 then (rows.map Pk.con, 0) else ([], askErr dc (rows.map Pk.con))) := by show _ = _; rw [HT0.out, hP]; simp only; rw [if_neg (by simp [hr])]
            rw [show endOf s tn 0 = 0 by unfold endOf; rw [if_neg (by omega), if_pos (by have := congrArg List.length hr; simp at this; omega)]]
            clear hP hr HT0 HSR
            go_wp2_with (first | ((with_reducible show wpList _ _ _ (⟨some 87, _, _, _, _, _⟩ :: _) _ _); (refine wpList_load_blk rfl rowSch (.tmp 2) rfl _ rfl (H.out.blk 0 rfl) rfl ?_)) | ((with_reducible show wpList _ _ _ (⟨some 88, _, _, _, _, _⟩ :: _) _ _); (refine wpList_load_blk rfl rowQry (.tmp 7) rfl _ rfl (H.out.blk 3 rfl) rfl ?_)))
            refine (HBC.out ⟨⟨B, k, c, rows⟩⟩ _ (H.out.at_ 2 rfl).1 H.out.to (fun p hp => by have := (H.out.at_ 2 rfl).2.2 p hp; omega)).mono ?_; rintro e w8 ⟨rfl, hb8⟩
            replace H := Lib.hid (H.out.bel hb8); (try simp only [List.set_cons_zero, List.set_cons_succ, List.cons_append, List.nil_append, List.eraseIdx_cons_zero, List.eraseIdx_cons_succ, List.setIfInBounds_toArray, World.size_alloc, selR, List.getD_cons_zero, List.getD_cons_succ] at H)
            simp only [Qr.con]
            clear hb8 HBC
            by_cases hE2 : askErr dc (rows.map Pk.con) = 0
            · have HT : Hid (asktake dc s = (rows.map Pk.con, 0)) := by show _ = _; rw [HT1.out, if_pos hE2]
              rw [hE2]
              clear hE2 HT1
              go_wp2_with (first | ((with_reducible show wpList _ _ _ (⟨some 94, _, _, _, _, _⟩ :: _) _ _); (refine wpList_load_blk rfl rowQry (.tmp 7) rfl _ rfl (H.out.blk 3 rfl) rfl ?_)) | ((with_reducible show wpList _ _ _ (⟨_, .store _ (.tmp 4) _, _, _, _, _⟩ :: _) _ _); (refine wpList_store_blk rfl rowQry (.tmp 4) (.tmp 94) rfl _ rfl (H.out.blk 4 rfl) rfl (#[.slice B k c]) rfl rfl (by simp [Value.oneCell']) ?_; intro wq bq hgq; replace H := Lib.hid (H.out.setBlk 4 rfl hgq bq); (try simp only [List.set_cons_zero, List.set_cons_succ, List.cons_append, List.nil_append, List.eraseIdx_cons_zero, List.eraseIdx_cons_succ, List.setIfInBounds_toArray, World.size_alloc, selR, List.getD_cons_zero, List.getD_cons_succ] at H); clear hgq bq)))
              refine bodyPost_ret (results_blk rfl rowQry rfl (H.out.blk 4 rfl) rfl) rfl ?_
              rw [HT.out]
              exact ⟨⟨⟨B, k, c, rows⟩⟩, rfl, rfl, H.out.to, H.out.get 2 rfl, H.out.new 2 rfl⟩
            · have HT : Hid (asktake dc s = ([], askErr dc (rows.map Pk.con))) := by show _ = _; rw [HT1.out, if_neg hE2]
              generalize askErr dc (rows.map Pk.con) = E at *
              have dk : (E == 0) = false := by simpa using hE2
              have dk2 : (E != 0) = true := by simpa using hE2
              clear hE2 HT1
              go_wp2_with ((with_reducible show wpList _ _ _ (⟨_, .store _ (.tmp 4) _, _, _, _, _⟩ :: _) _ _); (refine wpList_store_blk rfl rowQry (.tmp 4) (.tmp 92) rfl _ rfl (H.out.blk 4 rfl) rfl (#[.slice none 0 0]) rfl rfl (by simp [Value.oneCell']) ?_; intro wq bq hgq; replace H := Lib.hid (H.out.setBlk 4 rfl hgq bq); (try simp only [List.set_cons_zero, List.set_cons_succ, List.cons_append, List.nil_append, List.eraseIdx_cons_zero, List.eraseIdx_cons_succ, List.setIfInBounds_toArray, World.size_alloc, selR, List.getD_cons_zero, List.getD_cons_succ] at H); clear hgq bq))
              refine bodyPost_ret (results_blk rfl rowQry rfl (H.out.blk 4 rfl) rfl) rfl ?_
              rw [HT.out]
              exact ⟨⟨⟨none, 0, 0, []⟩⟩, rfl, rfl, H.out.to, holds_qry_nil _, qry_nil_new⟩
          · have HT : Hid (asktake dc s = ([], 3)) := by show _ = _; rw [HT0.out, hP]; simp only; rw [if_pos hr]
            rw [show endOf s tn 0 = 3 by unfold endOf; rw [if_neg (by omega), if_neg (fun h => hr (List.drop_of_length_le (by omega)))]]
            clear hP hr HT0 HSR
            go_wp2_with ((with_reducible show wpList _ _ _ (⟨_, .store _ (.tmp 4) _, _, _, _, _⟩ :: _) _ _); (refine wpList_store_blk rfl rowQry (.tmp 4) (.tmp 92) rfl _ rfl (H.out.blk 4 rfl) rfl (#[.slice none 0 0]) rfl rfl (by simp [Value.oneCell']) ?_; intro wq bq hgq; replace H := Lib.hid (H.out.setBlk 4 rfl hgq bq); (try simp only [List.set_cons_zero, List.set_cons_succ, List.cons_append, List.nil_append, List.eraseIdx_cons_zero, List.eraseIdx_cons_succ, List.setIfInBounds_toArray, World.size_alloc, selR, List.getD_cons_zero, List.getD_cons_succ] at H); clear hgq bq))
            refine bodyPost_ret (results_blk rfl rowQry rfl (H.out.blk 4 rfl) rfl) rfl ?_
            rw [HT.out]
            exact ⟨⟨⟨none, 0, 0, []⟩⟩, rfl, rfl, H.out.to, holds_qry_nil _, qry_nil_new⟩
        · have HT : Hid (asktake dc s = ([], kk)) := by show _ = _; rw [HT0.out, HSR.out.bad hkk]
          rw [show endOf s t kk = kk by unfold endOf; rw [if_pos hkk]]
          have dk : (kk == 0) = false := by simpa using hkk
          have dk2 : (kk != 0) = true := by simpa using hkk
          clear HT0 HSR
          go_wp2_with ((with_reducible show wpList _ _ _ (⟨_, .store _ (.tmp 4) _, _, _, _, _⟩ :: _) _ _); (refine wpList_store_blk rfl rowQry (.tmp 4) (.tmp 92) rfl _ rfl (H.out.blk 5 rfl) rfl (#[.slice none 0 0]) rfl rfl (by simp [Value.oneCell']) ?_; intro wq bq hgq; replace H := Lib.hid (H.out.setBlk 5 rfl hgq bq); (try simp only [List.set_cons_zero, List.set_cons_succ, List.cons_append, List.nil_append, List.eraseIdx_cons_zero, List.eraseIdx_cons_succ, List.setIfInBounds_toArray, World.size_alloc, selR, List.getD_cons_zero, List.getD_cons_succ] at H); clear hgq bq))
          refine bodyPost_ret (results_blk rfl rowQry rfl (H.out.blk 5 rfl) rfl) rfl ?_
          rw [HT.out]
          exact ⟨⟨⟨none, 0, 0, []⟩⟩, rfl, rfl, H.out.to, holds_qry_nil _, qry_nil_new⟩
  · have HT : Hid (asktake dc s = ([], schErr dc)) := by show _ = _; unfold asktake; rw [if_pos hE]
    have dE : (schErr dc == 0) = false := by simpa using hE
    have dE2 : (schErr dc != 0) = true := by simpa using hE
    clear hE
    go_enter Try.func29, Try.ntmps29
    go_wp2_with ((with_reducible show wpList _ _ _ (⟨some 12, _, _, _, _, _⟩ :: _) _ _); (refine wpList_load_blk rfl rowSch (.tmp 2) rfl _ rfl (H.out.blk 0 rfl) rfl ?_))
    refine (HC.out _ H.out.to).mono ?_; rintro e w1 ⟨rfl, hb1⟩
    replace H := Lib.hid (H.out.bel hb1); (try simp only [List.set_cons_zero, List.set_cons_succ, List.cons_append, List.nil_append, List.eraseIdx_cons_zero, List.eraseIdx_cons_succ, List.setIfInBounds_toArray, World.size_alloc, selR, List.getD_cons_zero, List.getD_cons_succ] at H)
    clear hb1 HC
    go_wp2_with ((with_reducible show wpList _ _ _ (⟨_, .store _ (.tmp 4) _, _, _, _, _⟩ :: _) _ _); (refine wpList_store_blk rfl rowQry (.tmp 4) (.tmp 16) rfl _ rfl (H.out.blk 1 rfl) rfl (#[.slice none 0 0]) rfl rfl (by simp [Value.oneCell']) ?_; intro wq bq hgq; replace H := Lib.hid (H.out.setBlk 1 rfl hgq bq); (try simp only [List.set_cons_zero, List.set_cons_succ, List.cons_append, List.nil_append, List.eraseIdx_cons_zero, List.eraseIdx_cons_succ, List.setIfInBounds_toArray, World.size_alloc, selR, List.getD_cons_zero, List.getD_cons_succ] at H); clear hgq bq))
    refine bodyPost_ret (results_blk rfl rowQry rfl (H.out.blk 1 rfl) rfl) rfl ?_
    rw [HT.out]
    exact ⟨⟨⟨none, 0, 0, []⟩⟩, rfl, rfl, H.out.to, holds_qry_nil _, qry_nil_new⟩

end Go.Proofs.Ytigjghfonpfdlaa
