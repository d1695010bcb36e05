/- schema.Read: a schema read by a reader. -/
import Derived.Test.YtnekknemjhlgdaaSchW
import Derived.Test.YtnekknemjhlgdaaDimR
import Derived.Test.YtnekknemjhlgdaaBf
namespace Go.Proofs.Ytnekknemjhlgdaa
open Go.RowKit
set_option linter.unusedVariables false
set_option linter.unusedSimpArgs false

/-- Own things. -/
abbrev rList {α : Type} (r : α → Res) (l : List α) : Res := ⟨fun g => ∃ a, a ∈ l ∧ (r a).D g, fun w => ∀ a ∈ l, (r a).p w⟩
theorem holds_list_nil {α : Type} (r : α → Res) (w : World) : (rList r []).holds w := ⟨fun g ⟨a, ha, _⟩ => (by cases ha), fun w' _ _ a ha => by cases ha⟩
theorem holds_list_snoc {α : Type} {r : α → Res} {l : List α} {a : α} {w : World} (h1 : (rList r l).holds w) (h2 : (r a).holds w) : (rList r (l ++ [a])).holds w := by
  refine ⟨fun g ⟨u, hu, hg⟩ => ?_, fun w' hs hk u hu => ?_⟩
  · rcases List.mem_append.1 hu with hu | hu
    · exact h1.1 g ⟨u, hu, hg⟩
    · rw [List.mem_singleton] at hu; subst hu; exact h2.1 g hg
  · rcases List.mem_append.1 hu with hu' | hu'
    · exact h1.2 w' hs (fun g ⟨v, hv, hg⟩ => hk g ⟨v, List.mem_append_left _ hv, hg⟩) u hu'
    · rw [List.mem_singleton] at hu'; subst hu'; exact h2.2 w' hs fun g hg => hk g ⟨u, hu, hg⟩
theorem list_snoc_D {α : Type} {r : α → Res} {l : List α} {a : α} : ∀ g, (rList r (l ++ [a])).D g → (rList r l).D g ∨ (r a).D g := fun g ⟨u, hu, hg⟩ => by
  rcases List.mem_append.1 hu with hu | hu
  · exact .inl ⟨u, hu, hg⟩
  · rw [List.mem_singleton] at hu; subst hu; exact .inr hg
theorem list_nil_D {α : Type} {r : α → Res} {P : Nat → Prop} : ∀ g, (rList r []).D g → P g := fun g ⟨a, ha, _⟩ => by cases ha

/-- A schema whose rows are the call's own. -/
structure SchOwn (s : Sch) (w : World) : Prop where
  dm : w.ownsRow 0 64 2 (.slice s.dm.A s.dm.n s.dm.c) s.dm.n (s.dm.l.flatMap Cel.cells)
  ds : ∀ d ∈ s.dm.l, DmOwn d w
  ms : w.ownsRow 0 9 1 (.slice s.ms.A s.ms.n s.ms.c) s.ms.n (s.ms.l.map tx)
  ml : ∀ m ∈ s.ms.l, m.length ≤ 12
  dn : s.dm.n ≤ 16
  mn : s.ms.n ≤ 3
def Sch.D (s : Sch) (g : Nat) : Prop := s.dm.v.ownBlock = some g ∨ (∃ d, d ∈ s.dm.l ∧ d.D g) ∨ s.ms.v.ownBlock = some g
abbrev rSch (s : Sch) : Res := ⟨s.D, SchOwn s⟩
theorem SchOwn.rd {s : Sch} {w : World} (h : SchOwn s w) : s.rd w :=
  ⟨⟨Rd.of_own h.dm, fun d hd => (h.ds d hd).rd, by have := h.dn; omega⟩, ⟨by have := Rd.of_own h.ms; rw [flat_texts]; exact this, fun t ht => by have := h.ml t ht; show t.length ≤ _; omega, by have := h.mn; omega⟩⟩
theorem SchOwn.small {s : Sch} {w : World} (h : SchOwn s w) : ∀ d ∈ s.dm.l, d.tr.n ≤ 1000000 ∧ ∀ t ∈ d.tr.l, t.up.n ≤ 100000 := fun d hd => ⟨by have := (h.ds d hd).n4; omega, fun t ht => by have := (h.ds d hd).up t ht; omega⟩
theorem holds_sch {A B : Option Addr} {n c m d : Nat} {ds : List Dm} {ms : List (List UInt8)} {w : World} (h1 : (rRow 64 2 (.slice A n c) n (ds.flatMap Cel.cells)).holds w) (h2 : (rList rDm ds).holds w) (h3 : (rRow 9 1 (.slice B m d) m (ms.map tx)).holds w) (h4 : ∀ x ∈ ms, x.length ≤ 12) (h5 : n ≤ 16) (h6 : m ≤ 3) : (rSch ⟨⟨A, n, c, ds⟩, ⟨B, m, d, ms⟩⟩).holds w := by
  refine ⟨?_, fun w' hs hk => ⟨h1.2 w' hs fun g hg => hk g (.inl hg), h2.2 w' hs fun g hg => hk g (.inr (.inl hg)), h3.2 w' hs fun g hg => hk g (.inr (.inr hg)), h4, h5, h6⟩⟩
  rintro g (hg | hg | hg)
  · exact h1.1 g hg
  · exact h2.1 g hg
  · exact h3.1 g hg
abbrev Sch.nil : Sch := ⟨⟨none, 0, 0, []⟩, ⟨none, 0, 0, []⟩⟩
abbrev SC.nil : SC := ⟨[], []⟩
theorem sch_nil_rd (w : World) : Sch.nil.rd w := ⟨Row.nil_rd w, Row.nil_rd w⟩
theorem holds_sch_nil (w : World) : (rSch Sch.nil).holds w := holds_sch (holds_row (World.ownsRow_nil w 0 _ _)) (holds_list_nil _ w) (holds_row (World.ownsRow_nil w 0 _ _)) (by intro x hx; cases hx) (by omega) (by omega)
theorem sch_nil_new {m : Nat} : ∀ g, (rSch Sch.nil).D g → m ≤ g := by
  rintro g (h | ⟨T, hT, _⟩ | h)
  · simp [Row.v, Value.ownBlock] at h
  · cases hT
  · simp [Row.v, Value.ownBlock] at h
theorem dm1_one (D : Dm) : ∀ u ∈ ([.string ⟨D.nm.toArray⟩, .slice D.tr.A D.tr.n D.tr.c] : List Value), u.oneCell' = true := by simp [Value.oneCell']
/-- A row of own dimensions, with them. -/
abbrev rX (acc : List Dm) (A : Option Addr) (k c : Nat) : Res := ⟨fun g => (rRow 64 2 (.slice A k c) k (acc.flatMap Cel.cells)).D g ∨ (rList rDm acc).D g, fun w => (rRow 64 2 (.slice A k c) k (acc.flatMap Cel.cells)).holds w ∧ (rList rDm acc).holds w⟩
theorem holds_X {acc : List Dm} {A : Option Addr} {k c : Nat} {w : World} (h1 : (rRow 64 2 (.slice A k c) k (acc.flatMap Cel.cells)).holds w) (h2 : (rList rDm acc).holds w) : (rX acc A k c).holds w :=
  ⟨fun g hg => hg.elim (h1.1 g) (h2.1 g), fun w' hs hk => ⟨h1.keep hs fun g hg => hk g (.inl hg), h2.keep hs fun g hg => hk g (.inr hg)⟩⟩
theorem of_X {acc : List Dm} {A : Option Addr} {k c : Nat} {w : World} (h : (rX acc A k c).holds w) : (rRow 64 2 (.slice A k c) k (acc.flatMap Cel.cells)).holds w ∧ (rList rDm acc).holds w := h.now
/-- How schema.Read ends. -/
def SchPost (b : Nat) (s : List UInt8) (o : PR SC) (w : World) (e : Ending) (w' : World) : Prop :=
  match o with
  | .error k => RErr b s k w e w'
  | .ok (d, l) => ∃ D : Sch, e = .returned (.agg D.cs) ∧ D.con = d ∧ w.grownBy w' (some b) ∧ Rdr w' b s l ∧ NewR w w' (rSch D)

set_option maxRecDepth 100000 in
set_option maxHeartbeats 2000000 in
theorem schread_any (b : Nat) (s l : List UInt8) (w : World) (hR : Rdr w b s l) :
    Calls Try.prog 88 #[.pointer (some ⟨b, 0, none⟩)] w (SchPost b s (psch l) w) := by
  have hbw := hR.lt
  have H := Lib.hid (((SL.rdr1 w hR).alloc #[.slice none 0 0, .slice none 0 0] 25).alloc #[.slice none 0 0, .slice none 0 0] 25)
  (try simp only [List.set_cons_zero, List.set_cons_succ, List.cons_append, List.nil_append, List.eraseIdx_cons_zero, List.eraseIdx_cons_succ, List.setIfInBounds_toArray, World.size_alloc, selR, List.getD_cons_zero, List.getD_cons_succ] at H)
  clear hR
  go_enter Try.func88, Try.ntmps88
  go_wp2_with fail
  generalize w.heap.size + 1 = y at *
  generalize w.heap.size = z at *
  generalize World.alloc (World.alloc _ _) _ = w1 at *
  have HT := Lib.hid (num_any b s l 16 w1 (H.out.rdr 0 rfl) (by omega) (by omega))
  cases hx : pnum 16 l with
  | error k =>
    have HE : Hid (psch l = .error k) := by show _ = _; unfold psch; rw [hx]
    rw [hx] at HT
    clear hx
    refine HT.out.mono ?_; rintro e w2 ⟨rfl, hg, l1, hr⟩
    replace H := Lib.hid (H.out.setRdr 0 rfl hg hr); (try simp only [List.set_cons_zero, List.set_cons_succ, List.cons_append, List.nil_append, List.eraseIdx_cons_zero, List.eraseIdx_cons_succ, List.setIfInBounds_toArray, World.size_alloc, selR, List.getD_cons_zero, List.getD_cons_succ] at H)
    clear hg hr
    go_wp2_with fail
    refine ⟨rfl, ?_⟩
    rw [HE.out]
    exact ⟨rfl, H.out.fr.grown, l1, H.out.rdr 0 rfl⟩
  | ok q =>
    obtain ⟨n, l1⟩ := q
    have hn16 := (pnum_ok hx).2.1
    have HE : Hid (psch l = psch1 (pmany pdim n [] l1)) := by show _ = _; unfold psch; rw [hx]
    rw [hx] at HT
    clear hx
    refine HT.out.mono ?_; rintro e w2 ⟨rfl, hg, hr⟩
    replace H := Lib.hid (H.out.setRdr 0 rfl hg hr); (try simp only [List.set_cons_zero, List.set_cons_succ, List.cons_append, List.nil_append, List.eraseIdx_cons_zero, List.eraseIdx_cons_succ, List.setIfInBounds_toArray, World.size_alloc, selR, List.getD_cons_zero, List.getD_cons_succ] at H)
    clear hg hr HT
    replace H := Lib.hid (H.out.addNil 64 2); (try simp only [List.set_cons_zero, List.set_cons_succ, List.cons_append, List.nil_append, List.eraseIdx_cons_zero, List.eraseIdx_cons_succ, List.setIfInBounds_toArray, World.size_alloc, selR, List.getD_cons_zero, List.getD_cons_succ] at H)
    replace H := Lib.hid (H.out.add (Bel.refl _) (rList rDm []) (holds_list_nil _ _) list_nil_D); (try simp only [List.set_cons_zero, List.set_cons_succ, List.cons_append, List.nil_append, List.eraseIdx_cons_zero, List.eraseIdx_cons_succ, List.setIfInBounds_toArray, World.size_alloc, selR, List.getD_cons_zero, List.getD_cons_succ] at H)
    go_wp2_with fail
    have HP : Hid (pmany pdim n [] l1 = pmany pdim (n - 0) (([] : List Dm).map Dm.con) l1) := rfl
    go_loopg [7] n (fun gg s7 wr => ∃ (k : Nat) (acc : List Dm) (A : Option Addr) (c : Nat) (l' : List UInt8), gg = n - k ∧ k ≤ n ∧ s7 = .int .i64 k ∧ Hid (acc.length = k) ∧ Hid (SL (One b) w wr [rRdr b s l', rBlk z 25 #[.slice none 0 0, .slice none 0 0], rBlk y 25 #[.slice A k c, .slice none 0 0], rRow 64 2 (.slice A k c) k (acc.flatMap Cel.cells), rList rDm acc]) ∧ Hid (pmany pdim n [] l1 = pmany pdim (n - k) (acc.map Dm.con) l'))
    case atStart => exact ⟨0, [], none, 0, l1, rfl, by omega, rfl, rfl, H, HP⟩
    case round =>
      clear H HP
      obtain ⟨k, acc, A, c, l', hgk, hk, rfl, hac, H, HP⟩ := hrel
      have Hgk := Lib.hid hgk
      have hk16 : k ≤ 16 := by omega
      clear hgk
      by_cases hlt : k < n
      · have HN := Lib.hid (HP.out.trans (pmany_step hlt))
        have HA := Lib.hid (fun w (hr : Rdr w b s l') => dmread_any b s l' w hr)
        clear HP
        go_upto_region 4 with fail
        cases hx : pdim l' with
        | error e1 =>
          rw [hx] at HA HN
          clear hx
          refine wp_region_held_drew (S := fun _ => True) (by kernel_rfl) trivial (fun hHeld => ?_)
          replace H := Lib.hid (H.out.drew); (try simp only [List.set_cons_zero, List.set_cons_succ, List.cons_append, List.nil_append, List.eraseIdx_cons_zero, List.eraseIdx_cons_succ, List.setIfInBounds_toArray, World.size_alloc, selR, List.getD_cons_zero, List.getD_cons_succ] at H)
          refine wpAnyH_take (i := 0) (v := ?vq1_0) (get_o0) (by kernel_rfl) (by kernel_rfl) (by kernel_rfl) (by exact fun _ _ _ h => h) (Or.inl ⟨by rfl, ?hyq1_0⟩) (by assumption) ?_
          case hyq1_0 => (intro w hSw; (try dsimp only at hSw); go_simp) <;> with_reducible rfl
          try simp only [Act.put, List.setIfInBounds_toArray, List.set_cons_zero, List.set_cons_succ]
          refine wpAnyH_take (i := 2) (v := ?vq1_2) (get_os (get_os (get_o0))) (by kernel_rfl) (by kernel_rfl) (by kernel_rfl) (by exact fun _ _ _ h => h) (Or.inl ⟨by rfl, ?hyq1_2⟩) (by assumption) ?_
          case hyq1_2 => (intro w hSw; (try dsimp only at hSw); go_simp) <;> with_reducible rfl
          try simp only [Act.put, List.setIfInBounds_toArray, List.set_cons_zero, List.set_cons_succ]
          refine wpAnyH_ready (rs := [1, 3]) (by kernel_rfl) (by simp) ?_
          refine (AllReadyH.cons (get_os (get_o0)) (fun KK hKK => ?_) (AllReadyH.cons (get_os (get_os (get_os (get_o0)))) (fun KK hKK => ?_) AllReadyH.nil))
          · have c1 := (H.out.blk 2 rfl).cell 0; simp only [List.getElem?_toArray, List.getElem?_cons_zero, List.getElem?_cons_succ] at c1
            go_simp
            clear c1
            refine hKK.out _ _ trivial (fun hHeld => ?_)
            clear hKK KK
            try simp only [Act.put, List.setIfInBounds_toArray, List.set_cons_zero, List.set_cons_succ]
            refine wpAnyH_ready (rs := [3]) (by kernel_rfl) (by simp) ?_
            refine (AllReadyH.cons (get_os (get_os (get_os (get_o0)))) (fun KK hKK => ?_) AllReadyH.nil)
            go_simp
            refine (HA.out _ (H.out.rdr 0 rfl)).mono ?_; rintro e' w3 ⟨rfl, hg3, l3, hr3⟩
            replace H := Lib.hid (H.out.setRdr 0 rfl hg3 hr3); (try simp only [List.set_cons_zero, List.set_cons_succ, List.cons_append, List.nil_append, List.eraseIdx_cons_zero, List.eraseIdx_cons_succ, List.setIfInBounds_toArray, World.size_alloc, selR, List.getD_cons_zero, List.getD_cons_succ] at H)
            refine ⟨rfl, ?_⟩
            rw [HE.out, show pmany pdim n [] l1 = .error e1 from HN.out]
            exact ⟨rfl, H.out.fr.grown, l3, H.out.rdr 0 rfl⟩
          · go_simp
            refine (HA.out _ (H.out.rdr 0 rfl)).mono ?_; rintro e' w3 ⟨rfl, hg3, l3, hr3⟩
            replace H := Lib.hid (H.out.setRdr 0 rfl hg3 hr3); (try simp only [List.set_cons_zero, List.set_cons_succ, List.cons_append, List.nil_append, List.eraseIdx_cons_zero, List.eraseIdx_cons_succ, List.setIfInBounds_toArray, World.size_alloc, selR, List.getD_cons_zero, List.getD_cons_succ] at H)
            refine ⟨rfl, ?_⟩
            rw [HE.out, show pmany pdim n [] l1 = .error e1 from HN.out]
            exact ⟨rfl, H.out.fr.grown, l3, H.out.rdr 0 rfl⟩
        | ok q =>
          obtain ⟨dc, l3⟩ := q
          rw [hx] at HA HN
          have HN : Hid (pmany pdim n [] l1 = pmany pdim (n - (k + 1)) (acc.map Dm.con ++ [dc]) l3) := HN.out
          clear hx
          refine wp_region_held_drew (S := fun _ => True) (by kernel_rfl) trivial (fun hHeld => ?_)
          replace H := Lib.hid (H.out.drew); (try simp only [List.set_cons_zero, List.set_cons_succ, List.cons_append, List.nil_append, List.eraseIdx_cons_zero, List.eraseIdx_cons_succ, List.setIfInBounds_toArray, World.size_alloc, selR, List.getD_cons_zero, List.getD_cons_succ] at H)
          refine wpAnyH_take (i := 0) (v := ?vq3_0) (get_o0) (by kernel_rfl) (by kernel_rfl) (by kernel_rfl) (by exact fun _ _ _ h => h) (Or.inl ⟨by rfl, ?hyq3_0⟩) (by assumption) ?_
          case hyq3_0 => (intro w hSw; (try dsimp only at hSw); go_simp) <;> with_reducible rfl
          try simp only [Act.put, List.setIfInBounds_toArray, List.set_cons_zero, List.set_cons_succ]
          refine wpAnyH_take (i := 2) (v := ?vq3_2) (get_os (get_os (get_o0))) (by kernel_rfl) (by kernel_rfl) (by kernel_rfl) (by exact fun _ _ _ h => h) (Or.inl ⟨by rfl, ?hyq3_2⟩) (by assumption) ?_
          case hyq3_2 => (intro w hSw; (try dsimp only at hSw); go_simp) <;> with_reducible rfl
          try simp only [Act.put, List.setIfInBounds_toArray, List.set_cons_zero, List.set_cons_succ]
          refine wpAnyH_ready (rs := [1, 3]) (by kernel_rfl) (by simp) ?_
          refine (AllReadyH.cons (get_os (get_o0)) (fun KK hKK => ?_) (AllReadyH.cons (get_os (get_os (get_os (get_o0)))) (fun KK hKK => ?_) AllReadyH.nil))
          · have c1 := (H.out.blk 2 rfl).cell 0; simp only [List.getElem?_toArray, List.getElem?_cons_zero, List.getElem?_cons_succ] at c1
            go_simp
            clear c1
            refine hKK.out _ _ trivial (fun hHeld => ?_)
            clear hKK KK
            try simp only [Act.put, List.setIfInBounds_toArray, List.set_cons_zero, List.set_cons_succ]
            refine wpAnyH_ready (rs := [3]) (by kernel_rfl) (by simp) ?_
            refine (AllReadyH.cons (get_os (get_os (get_os (get_o0)))) (fun KK hKK => ?_) AllReadyH.nil)
            go_simp
            refine (HA.out _ (H.out.rdr 0 rfl)).mono ?_; rintro e' w3 ⟨D, rfl, hDc, hg3, hr3, hnew⟩
            replace H := Lib.hid (H.out.setRdrAdd 0 rfl hg3 hr3 (rDm D) hnew.1 hnew.2); (try simp only [List.set_cons_zero, List.set_cons_succ, List.cons_append, List.nil_append, List.eraseIdx_cons_zero, List.eraseIdx_cons_succ, List.setIfInBounds_toArray, World.size_alloc, selR, List.getD_cons_zero, List.getD_cons_succ] at H)
            have HDc := Lib.hid hDc
            clear hg3 hr3 hnew hDc
            refine hKK.out _ _ trivial (fun hHeld => ?_)
            clear hKK KK
            try simp only [Act.put, List.setIfInBounds_toArray, List.set_cons_zero, List.set_cons_succ]
            refine wpAnyH_ready (rs := [4]) (by kernel_rfl) (by simp) ?_
            refine (AllReadyH.cons (get_os (get_os (get_os (get_os (get_o0))))) (fun KK hKK => ?_) AllReadyH.nil)
            refine step_buildSlice1 rfl E_dm (.tmp 12) rfl (D.cs) rfl rfl (by omega) ?_
            replace H := Lib.hid (H.out.addRow ((Bel.refl _).alloc _) (own_made _ 64 (D.cs) _ rfl)); (try simp only [List.set_cons_zero, List.set_cons_succ, List.cons_append, List.nil_append, List.eraseIdx_cons_zero, List.eraseIdx_cons_succ, List.setIfInBounds_toArray, World.size_alloc, selR, List.getD_cons_zero, List.getD_cons_succ] at H)
            refine hKK.out _ _ trivial (fun hHeld => ?_)
            clear hKK KK
            try simp only [Act.put, List.setIfInBounds_toArray, List.set_cons_zero, List.set_cons_succ]
            refine wpAnyH_ready (rs := [5]) (by kernel_rfl) (by simp) ?_
            refine (AllReadyH.cons (get_os (get_os (get_os (get_os (get_os (get_o0)))))) (fun KK hKK => ?_) AllReadyH.nil)
            refine step_append0 rfl (.tmp 10) (.tmp 13) _ rfl E_dm 0 (Nat.zero_le _) _ k _ rfl (H.out.row 3 rfl) _ 1 1 _ rfl (Rd.of_own (H.out.row 6 rfl)) (dm1_one D) (by unfold maxLen; omega) (by omega) ?_
            intro vq wq howq hgq hatq
            replace H := Lib.hid (H.out.setRow 3 rfl hgq howq hatq); (try simp only [List.set_cons_zero, List.set_cons_succ, List.cons_append, List.nil_append, List.eraseIdx_cons_zero, List.eraseIdx_cons_succ, List.setIfInBounds_toArray, World.size_alloc, selR, List.getD_cons_zero, List.getD_cons_succ] at H)
            clear howq hgq hatq
            obtain ⟨A2, c2, rfl, _⟩ := own_slice (H.out.row 3 rfl)
            refine hKK.out _ _ trivial (fun hHeld => ?_)
            clear hKK KK
            try simp only [Act.put, List.setIfInBounds_toArray, List.set_cons_zero, List.set_cons_succ]
            refine wpAnyH_ready (rs := [6]) (by kernel_rfl) (by simp) ?_
            refine (AllReadyH.cons (get_os (get_os (get_os (get_os (get_os (get_os (get_o0))))))) (fun KK hKK => ?_) AllReadyH.nil)
            go_simp
            refine hKK.out _ _ trivial (fun hHeld => ?_)
            clear hKK KK
            try simp only [Act.put, List.setIfInBounds_toArray, List.set_cons_zero, List.set_cons_succ]
            refine wpAnyH_ready (rs := [7]) (by kernel_rfl) (by simp) ?_
            refine (AllReadyH.cons (get_os (get_os (get_os (get_os (get_os (get_os (get_os (get_o0)))))))) (fun KK hKK => ?_) AllReadyH.nil)
            have c1 := (H.out.blk 2 rfl).cell 0; simp only [List.getElem?_toArray, List.getElem?_cons_zero, List.getElem?_cons_succ] at c1; have f1 := (H.out.blk 2 rfl).frozen 0
            go_simp
            replace H := Lib.hid (H.out.setCell 2 rfl 0 (.slice A2 (k + 1) c2)); (try simp only [List.set_cons_zero, List.set_cons_succ, List.cons_append, List.nil_append, List.eraseIdx_cons_zero, List.eraseIdx_cons_succ, List.setIfInBounds_toArray, World.size_alloc, selR, List.getD_cons_zero, List.getD_cons_succ] at H)
            clear c1 f1
            refine hKK.out _ _ trivial (fun hHeld => ?_)
            clear hKK KK
            try simp only [Act.put, List.setIfInBounds_toArray, List.set_cons_zero, List.set_cons_succ]
            refine wpAnyH_done (by kernel_rfl) ?_ _
            clear hHeld
            replace H := Lib.hid (H.out.both 4 5 (by omega) rfl rfl (rList rDm (acc ++ [D])) (holds_list_snoc (H.out.get 4 rfl) (H.out.get 5 rfl)) list_snoc_D); (try simp only [List.set_cons_zero, List.set_cons_succ, List.cons_append, List.nil_append, List.eraseIdx_cons_zero, List.eraseIdx_cons_succ, List.setIfInBounds_toArray, World.size_alloc, selR, List.getD_cons_zero, List.getD_cons_succ] at H)
            replace H := Lib.hid (H.out.sel [0, 1, 2, 3, 4] (by decide) (by simp)); (try simp only [List.set_cons_zero, List.set_cons_succ, List.cons_append, List.nil_append, List.eraseIdx_cons_zero, List.eraseIdx_cons_succ, List.setIfInBounds_toArray, World.size_alloc, selR, List.getD_cons_zero, List.getD_cons_succ] at H)
            have HN2 : Hid (pmany pdim n [] l1 = pmany pdim (n - (k + 1)) ((acc ++ [D]).map Dm.con) l3) := by show _ = _; rw [HN.out, List.map_append, List.map_cons, List.map_nil, HDc.out]
            go_wp2_with fail
            go_roundg (n - (k + 1))
            case rel => exact ⟨k + 1, acc ++ [D], A2, c2, l3, rfl, by omega, by go_num, by show _ = _; rw [List.length_append, hac.out]; rfl, by rw [List.flatMap_append, List.flatMap_cons, List.flatMap_nil, List.append_nil]; exact H, HN2⟩
            case measure => rw [Hgk.out]; omega
          · go_simp
            refine (HA.out _ (H.out.rdr 0 rfl)).mono ?_; rintro e' w3 ⟨D, rfl, hDc, hg3, hr3, hnew⟩
            replace H := Lib.hid (H.out.setRdrAdd 0 rfl hg3 hr3 (rDm D) hnew.1 hnew.2); (try simp only [List.set_cons_zero, List.set_cons_succ, List.cons_append, List.nil_append, List.eraseIdx_cons_zero, List.eraseIdx_cons_succ, List.setIfInBounds_toArray, World.size_alloc, selR, List.getD_cons_zero, List.getD_cons_succ] at H)
            have HDc := Lib.hid hDc
            clear hg3 hr3 hnew hDc
            refine hKK.out _ _ trivial (fun hHeld => ?_)
            clear hKK KK
            try simp only [Act.put, List.setIfInBounds_toArray, List.set_cons_zero, List.set_cons_succ]
            refine wpAnyH_ready (rs := [1, 4]) (by kernel_rfl) (by simp) ?_
            refine (AllReadyH.cons (get_os (get_o0)) (fun KK hKK => ?_) (AllReadyH.cons (get_os (get_os (get_os (get_os (get_o0))))) (fun KK hKK => ?_) AllReadyH.nil))
            · have c1 := (H.out.blk 2 rfl).cell 0; simp only [List.getElem?_toArray, List.getElem?_cons_zero, List.getElem?_cons_succ] at c1
              go_simp
              clear c1
              refine hKK.out _ _ trivial (fun hHeld => ?_)
              clear hKK KK
              try simp only [Act.put, List.setIfInBounds_toArray, List.set_cons_zero, List.set_cons_succ]
              refine wpAnyH_ready (rs := [4]) (by kernel_rfl) (by simp) ?_
              refine (AllReadyH.cons (get_os (get_os (get_os (get_os (get_o0))))) (fun KK hKK => ?_) AllReadyH.nil)
              refine step_buildSlice1 rfl E_dm (.tmp 12) rfl (D.cs) rfl rfl (by omega) ?_
              replace H := Lib.hid (H.out.addRow ((Bel.refl _).alloc _) (own_made _ 64 (D.cs) _ rfl)); (try simp only [List.set_cons_zero, List.set_cons_succ, List.cons_append, List.nil_append, List.eraseIdx_cons_zero, List.eraseIdx_cons_succ, List.setIfInBounds_toArray, World.size_alloc, selR, List.getD_cons_zero, List.getD_cons_succ] at H)
              refine hKK.out _ _ trivial (fun hHeld => ?_)
              clear hKK KK
              try simp only [Act.put, List.setIfInBounds_toArray, List.set_cons_zero, List.set_cons_succ]
              refine wpAnyH_ready (rs := [5]) (by kernel_rfl) (by simp) ?_
              refine (AllReadyH.cons (get_os (get_os (get_os (get_os (get_os (get_o0)))))) (fun KK hKK => ?_) AllReadyH.nil)
              refine step_append0 rfl (.tmp 10) (.tmp 13) _ rfl E_dm 0 (Nat.zero_le _) _ k _ rfl (H.out.row 3 rfl) _ 1 1 _ rfl (Rd.of_own (H.out.row 6 rfl)) (dm1_one D) (by unfold maxLen; omega) (by omega) ?_
              intro vq wq howq hgq hatq
              replace H := Lib.hid (H.out.setRow 3 rfl hgq howq hatq); (try simp only [List.set_cons_zero, List.set_cons_succ, List.cons_append, List.nil_append, List.eraseIdx_cons_zero, List.eraseIdx_cons_succ, List.setIfInBounds_toArray, World.size_alloc, selR, List.getD_cons_zero, List.getD_cons_succ] at H)
              clear howq hgq hatq
              obtain ⟨A2, c2, rfl, _⟩ := own_slice (H.out.row 3 rfl)
              refine hKK.out _ _ trivial (fun hHeld => ?_)
              clear hKK KK
              try simp only [Act.put, List.setIfInBounds_toArray, List.set_cons_zero, List.set_cons_succ]
              refine wpAnyH_ready (rs := [6]) (by kernel_rfl) (by simp) ?_
              refine (AllReadyH.cons (get_os (get_os (get_os (get_os (get_os (get_os (get_o0))))))) (fun KK hKK => ?_) AllReadyH.nil)
              go_simp
              refine hKK.out _ _ trivial (fun hHeld => ?_)
              clear hKK KK
              try simp only [Act.put, List.setIfInBounds_toArray, List.set_cons_zero, List.set_cons_succ]
              refine wpAnyH_ready (rs := [7]) (by kernel_rfl) (by simp) ?_
              refine (AllReadyH.cons (get_os (get_os (get_os (get_os (get_os (get_os (get_os (get_o0)))))))) (fun KK hKK => ?_) AllReadyH.nil)
              have c1 := (H.out.blk 2 rfl).cell 0; simp only [List.getElem?_toArray, List.getElem?_cons_zero, List.getElem?_cons_succ] at c1; have f1 := (H.out.blk 2 rfl).frozen 0
              go_simp
              replace H := Lib.hid (H.out.setCell 2 rfl 0 (.slice A2 (k + 1) c2)); (try simp only [List.set_cons_zero, List.set_cons_succ, List.cons_append, List.nil_append, List.eraseIdx_cons_zero, List.eraseIdx_cons_succ, List.setIfInBounds_toArray, World.size_alloc, selR, List.getD_cons_zero, List.getD_cons_succ] at H)
              clear c1 f1
              refine hKK.out _ _ trivial (fun hHeld => ?_)
              clear hKK KK
              try simp only [Act.put, List.setIfInBounds_toArray, List.set_cons_zero, List.set_cons_succ]
              refine wpAnyH_done (by kernel_rfl) ?_ _
              clear hHeld
              replace H := Lib.hid (H.out.both 4 5 (by omega) rfl rfl (rList rDm (acc ++ [D])) (holds_list_snoc (H.out.get 4 rfl) (H.out.get 5 rfl)) list_snoc_D); (try simp only [List.set_cons_zero, List.set_cons_succ, List.cons_append, List.nil_append, List.eraseIdx_cons_zero, List.eraseIdx_cons_succ, List.setIfInBounds_toArray, World.size_alloc, selR, List.getD_cons_zero, List.getD_cons_succ] at H)
              replace H := Lib.hid (H.out.sel [0, 1, 2, 3, 4] (by decide) (by simp)); (try simp only [List.set_cons_zero, List.set_cons_succ, List.cons_append, List.nil_append, List.eraseIdx_cons_zero, List.eraseIdx_cons_succ, List.setIfInBounds_toArray, World.size_alloc, selR, List.getD_cons_zero, List.getD_cons_succ] at H)
              have HN2 : Hid (pmany pdim n [] l1 = pmany pdim (n - (k + 1)) ((acc ++ [D]).map Dm.con) l3) := by show _ = _; rw [HN.out, List.map_append, List.map_cons, List.map_nil, HDc.out]
              go_wp2_with fail
              go_roundg (n - (k + 1))
              case rel => exact ⟨k + 1, acc ++ [D], A2, c2, l3, rfl, by omega, by go_num, by show _ = _; rw [List.length_append, hac.out]; rfl, by rw [List.flatMap_append, List.flatMap_cons, List.flatMap_nil, List.append_nil]; exact H, HN2⟩
              case measure => rw [Hgk.out]; omega
            · refine step_buildSlice1 rfl E_dm (.tmp 12) rfl (D.cs) rfl rfl (by omega) ?_
              replace H := Lib.hid (H.out.addRow ((Bel.refl _).alloc _) (own_made _ 64 (D.cs) _ rfl)); (try simp only [List.set_cons_zero, List.set_cons_succ, List.cons_append, List.nil_append, List.eraseIdx_cons_zero, List.eraseIdx_cons_succ, List.setIfInBounds_toArray, World.size_alloc, selR, List.getD_cons_zero, List.getD_cons_succ] at H)
              refine hKK.out _ _ trivial (fun hHeld => ?_)
              clear hKK KK
              try simp only [Act.put, List.setIfInBounds_toArray, List.set_cons_zero, List.set_cons_succ]
              refine wpAnyH_ready (rs := [1]) (by kernel_rfl) (by simp) ?_
              refine (AllReadyH.cons (get_os (get_o0)) (fun KK hKK => ?_) AllReadyH.nil)
              have c1 := (H.out.blk 2 rfl).cell 0; simp only [List.getElem?_toArray, List.getElem?_cons_zero, List.getElem?_cons_succ] at c1
              go_simp
              clear c1
              refine hKK.out _ _ trivial (fun hHeld => ?_)
              clear hKK KK
              try simp only [Act.put, List.setIfInBounds_toArray, List.set_cons_zero, List.set_cons_succ]
              refine wpAnyH_ready (rs := [5]) (by kernel_rfl) (by simp) ?_
              refine (AllReadyH.cons (get_os (get_os (get_os (get_os (get_os (get_o0)))))) (fun KK hKK => ?_) AllReadyH.nil)
              refine step_append0 rfl (.tmp 10) (.tmp 13) _ rfl E_dm 0 (Nat.zero_le _) _ k _ rfl (H.out.row 3 rfl) _ 1 1 _ rfl (Rd.of_own (H.out.row 6 rfl)) (dm1_one D) (by unfold maxLen; omega) (by omega) ?_
              intro vq wq howq hgq hatq
              replace H := Lib.hid (H.out.setRow 3 rfl hgq howq hatq); (try simp only [List.set_cons_zero, List.set_cons_succ, List.cons_append, List.nil_append, List.eraseIdx_cons_zero, List.eraseIdx_cons_succ, List.setIfInBounds_toArray, World.size_alloc, selR, List.getD_cons_zero, List.getD_cons_succ] at H)
              clear howq hgq hatq
              obtain ⟨A2, c2, rfl, _⟩ := own_slice (H.out.row 3 rfl)
              refine hKK.out _ _ trivial (fun hHeld => ?_)
              clear hKK KK
              try simp only [Act.put, List.setIfInBounds_toArray, List.set_cons_zero, List.set_cons_succ]
              refine wpAnyH_ready (rs := [6]) (by kernel_rfl) (by simp) ?_
              refine (AllReadyH.cons (get_os (get_os (get_os (get_os (get_os (get_os (get_o0))))))) (fun KK hKK => ?_) AllReadyH.nil)
              go_simp
              refine hKK.out _ _ trivial (fun hHeld => ?_)
              clear hKK KK
              try simp only [Act.put, List.setIfInBounds_toArray, List.set_cons_zero, List.set_cons_succ]
              refine wpAnyH_ready (rs := [7]) (by kernel_rfl) (by simp) ?_
              refine (AllReadyH.cons (get_os (get_os (get_os (get_os (get_os (get_os (get_os (get_o0)))))))) (fun KK hKK => ?_) AllReadyH.nil)
              have c1 := (H.out.blk 2 rfl).cell 0; simp only [List.getElem?_toArray, List.getElem?_cons_zero, List.getElem?_cons_succ] at c1; have f1 := (H.out.blk 2 rfl).frozen 0
              go_simp
              replace H := Lib.hid (H.out.setCell 2 rfl 0 (.slice A2 (k + 1) c2)); (try simp only [List.set_cons_zero, List.set_cons_succ, List.cons_append, List.nil_append, List.eraseIdx_cons_zero, List.eraseIdx_cons_succ, List.setIfInBounds_toArray, World.size_alloc, selR, List.getD_cons_zero, List.getD_cons_succ] at H)
              clear c1 f1
              refine hKK.out _ _ trivial (fun hHeld => ?_)
              clear hKK KK
              try simp only [Act.put, List.setIfInBounds_toArray, List.set_cons_zero, List.set_cons_succ]
              refine wpAnyH_done (by kernel_rfl) ?_ _
              clear hHeld
              replace H := Lib.hid (H.out.both 4 5 (by omega) rfl rfl (rList rDm (acc ++ [D])) (holds_list_snoc (H.out.get 4 rfl) (H.out.get 5 rfl)) list_snoc_D); (try simp only [List.set_cons_zero, List.set_cons_succ, List.cons_append, List.nil_append, List.eraseIdx_cons_zero, List.eraseIdx_cons_succ, List.setIfInBounds_toArray, World.size_alloc, selR, List.getD_cons_zero, List.getD_cons_succ] at H)
              replace H := Lib.hid (H.out.sel [0, 1, 2, 3, 4] (by decide) (by simp)); (try simp only [List.set_cons_zero, List.set_cons_succ, List.cons_append, List.nil_append, List.eraseIdx_cons_zero, List.eraseIdx_cons_succ, List.setIfInBounds_toArray, World.size_alloc, selR, List.getD_cons_zero, List.getD_cons_succ] at H)
              have HN2 : Hid (pmany pdim n [] l1 = pmany pdim (n - (k + 1)) ((acc ++ [D]).map Dm.con) l3) := by show _ = _; rw [HN.out, List.map_append, List.map_cons, List.map_nil, HDc.out]
              go_wp2_with fail
              go_roundg (n - (k + 1))
              case rel => exact ⟨k + 1, acc ++ [D], A2, c2, l3, rfl, by omega, by go_num, by show _ = _; rw [List.length_append, hac.out]; rfl, by rw [List.flatMap_append, List.flatMap_cons, List.flatMap_nil, List.append_nil]; exact H, HN2⟩
              case measure => rw [Hgk.out]; omega
      · have HN1 : Hid (psch l = pschM (acc.map Dm.con) l') := by show _ = _; rw [HE.out, HP.out, show n - k = 0 by omega]; rfl
        clear HP HE
        have HT := Lib.hid (fun w (hr : Rdr w b s l') => num_any b s l' 3 w hr (by omega) (by omega))
        go_wp2_with fail
        cases hx : pnum 3 l' with
        | error e1 =>
          have HE : Hid (psch l = .error e1) := by show _ = _; rw [HN1.out]; unfold pschM; rw [hx]
          rw [hx] at HT
          clear hx HN1
          refine (HT.out _ (H.out.rdr 0 rfl)).mono ?_; rintro e w2 ⟨rfl, hg, l3, hr⟩
          replace H := Lib.hid (H.out.setRdr 0 rfl hg hr); (try simp only [List.set_cons_zero, List.set_cons_succ, List.cons_append, List.nil_append, List.eraseIdx_cons_zero, List.eraseIdx_cons_succ, List.setIfInBounds_toArray, World.size_alloc, selR, List.getD_cons_zero, List.getD_cons_succ] at H)
          clear hg hr
          go_wp2_with fail
          refine ⟨rfl, ?_⟩
          rw [HE.out]
          exact ⟨rfl, H.out.fr.grown, l3, H.out.rdr 0 rfl⟩
        | ok q =>
          obtain ⟨m, l2⟩ := q
          have hm3 := (pnum_ok hx).2.1
          have HE : Hid (psch l = psch2 (acc.map Dm.con) (pmany (ptxt 12) m [] l2)) := by show _ = _; rw [HN1.out]; unfold pschM; rw [hx]
          rw [hx] at HT
          clear hx HN1
          refine (HT.out _ (H.out.rdr 0 rfl)).mono ?_; rintro e w2 ⟨rfl, hg, hr⟩
          replace H := Lib.hid (H.out.setRdr 0 rfl hg hr); (try simp only [List.set_cons_zero, List.set_cons_succ, List.cons_append, List.nil_append, List.eraseIdx_cons_zero, List.eraseIdx_cons_succ, List.setIfInBounds_toArray, World.size_alloc, selR, List.getD_cons_zero, List.getD_cons_succ] at H)
          clear hg hr HT
          replace H := Lib.hid (H.out.addNil 9 1); (try simp only [List.set_cons_zero, List.set_cons_succ, List.cons_append, List.nil_append, List.eraseIdx_cons_zero, List.eraseIdx_cons_succ, List.setIfInBounds_toArray, World.size_alloc, selR, List.getD_cons_zero, List.getD_cons_succ] at H)
          go_wp2_with fail
          have HP : Hid (pmany (ptxt 12) m [] l2 = pmany (ptxt 12) (m - 0) [] l2) := rfl
          have HML : Hid (∀ x ∈ ([] : List (List UInt8)), x.length ≤ 12) := by show ∀ x ∈ ([] : List (List UInt8)), _; intro x hx; cases hx
          go_loopg [19] m (fun gg s19 wr => ∃ (j : Nat) (ms : List (List UInt8)) (B : Option Addr) (d : Nat) (l' : List UInt8), gg = m - j ∧ j ≤ m ∧ s19 = .int .i64 j ∧ Hid (ms.length = j) ∧ Hid (∀ x ∈ ms, x.length ≤ 12) ∧ Hid (SL (One b) w wr [rRdr b s l', rBlk z 25 #[.slice none 0 0, .slice none 0 0], rBlk y 25 #[.slice A k c, .slice B j d], rRow 64 2 (.slice A k c) k (acc.flatMap Cel.cells), rList rDm acc, rRow 9 1 (.slice B j d) j (ms.map tx)]) ∧ Hid (pmany (ptxt 12) m [] l2 = pmany (ptxt 12) (m - j) ms l'))
          case atStart => exact ⟨0, [], none, 0, l2, rfl, by omega, rfl, rfl, HML, H, HP⟩
          case round =>
            clear H HP HML
            obtain ⟨j, ms, B, d, l', hgj, hj, rfl, hmc, HML, H, HP⟩ := hrel
            have Hgj := Lib.hid hgj
            have hj3 : j ≤ 3 := by omega
            clear hgj
            by_cases hlt2 : j < m
            · have HN := Lib.hid (HP.out.trans (pmany_step hlt2))
              have HA := Lib.hid (fun w (hr : Rdr w b s l') => text_any b s l' 12 w hr (by omega) (by omega))
              clear HP
              go_upto_region 8 with fail
              cases hx : ptxt 12 l' with
              | error e1 =>
                rw [hx] at HA HN
                clear hx
                refine wp_region_held_drew (S := fun _ => True) (by kernel_rfl) trivial (fun hHeld => ?_)
                replace H := Lib.hid (H.out.drew); (try simp only [List.set_cons_zero, List.set_cons_succ, List.cons_append, List.nil_append, List.eraseIdx_cons_zero, List.eraseIdx_cons_succ, List.setIfInBounds_toArray, World.size_alloc, selR, List.getD_cons_zero, List.getD_cons_succ] at H)
                refine wpAnyH_take (i := 0) (v := ?vq2_0) (get_o0) (by kernel_rfl) (by kernel_rfl) (by kernel_rfl) (by exact fun _ _ _ h => h) (Or.inl ⟨by rfl, ?hyq2_0⟩) (by assumption) ?_
                case hyq2_0 => (intro w hSw; (try dsimp only at hSw); go_simp) <;> with_reducible rfl
                try simp only [Act.put, List.setIfInBounds_toArray, List.set_cons_zero, List.set_cons_succ]
                refine wpAnyH_take (i := 2) (v := ?vq2_2) (get_os (get_os (get_o0))) (by kernel_rfl) (by kernel_rfl) (by kernel_rfl) (by exact fun _ _ _ h => h) (Or.inl ⟨by rfl, ?hyq2_2⟩) (by assumption) ?_
                case hyq2_2 => (intro w hSw; (try dsimp only at hSw); go_simp) <;> with_reducible rfl
                try simp only [Act.put, List.setIfInBounds_toArray, List.set_cons_zero, List.set_cons_succ]
                refine wpAnyH_ready (rs := [1, 3]) (by kernel_rfl) (by simp) ?_
                refine (AllReadyH.cons (get_os (get_o0)) (fun KK hKK => ?_) (AllReadyH.cons (get_os (get_os (get_os (get_o0)))) (fun KK hKK => ?_) AllReadyH.nil))
                · have c1 := (H.out.blk 2 rfl).cell 1; simp only [List.getElem?_toArray, List.getElem?_cons_zero, List.getElem?_cons_succ] at c1
                  go_simp
                  clear c1
                  refine hKK.out _ _ trivial (fun hHeld => ?_)
                  clear hKK KK
                  try simp only [Act.put, List.setIfInBounds_toArray, List.set_cons_zero, List.set_cons_succ]
                  refine wpAnyH_ready (rs := [3]) (by kernel_rfl) (by simp) ?_
                  refine (AllReadyH.cons (get_os (get_os (get_os (get_o0)))) (fun KK hKK => ?_) AllReadyH.nil)
                  go_simp
                  refine (HA.out _ (H.out.rdr 0 rfl)).mono ?_; rintro e' w3 ⟨rfl, hg3, l3, hr3⟩
                  replace H := Lib.hid (H.out.setRdr 0 rfl hg3 hr3); (try simp only [List.set_cons_zero, List.set_cons_succ, List.cons_append, List.nil_append, List.eraseIdx_cons_zero, List.eraseIdx_cons_succ, List.setIfInBounds_toArray, World.size_alloc, selR, List.getD_cons_zero, List.getD_cons_succ] at H)
                  refine ⟨rfl, ?_⟩
                  rw [HE.out, show pmany (ptxt 12) m [] l2 = .error e1 from HN.out]
                  exact ⟨rfl, H.out.fr.grown, l3, H.out.rdr 0 rfl⟩
                · go_simp
                  refine (HA.out _ (H.out.rdr 0 rfl)).mono ?_; rintro e' w3 ⟨rfl, hg3, l3, hr3⟩
                  replace H := Lib.hid (H.out.setRdr 0 rfl hg3 hr3); (try simp only [List.set_cons_zero, List.set_cons_succ, List.cons_append, List.nil_append, List.eraseIdx_cons_zero, List.eraseIdx_cons_succ, List.setIfInBounds_toArray, World.size_alloc, selR, List.getD_cons_zero, List.getD_cons_succ] at H)
                  refine ⟨rfl, ?_⟩
                  rw [HE.out, show pmany (ptxt 12) m [] l2 = .error e1 from HN.out]
                  exact ⟨rfl, H.out.fr.grown, l3, H.out.rdr 0 rfl⟩
              | ok q =>
                obtain ⟨x, l3⟩ := q
                have hx12 := (ptxt_ok hx).1
                have HML2 : Hid (∀ y ∈ ms ++ [x], y.length ≤ 12) := by
                  intro y hy
                  rcases List.mem_append.1 hy with hy | hy
                  · exact HML.out y hy
                  · rw [List.mem_singleton] at hy; subst hy; omega
                rw [hx] at HA HN
                have HN : Hid (pmany (ptxt 12) m [] l2 = pmany (ptxt 12) (m - (j + 1)) (ms ++ [x]) l3) := HN.out
                clear hx
                refine wp_region_held_drew (S := fun _ => True) (by kernel_rfl) trivial (fun hHeld => ?_)
                replace H := Lib.hid (H.out.drew); (try simp only [List.set_cons_zero, List.set_cons_succ, List.cons_append, List.nil_append, List.eraseIdx_cons_zero, List.eraseIdx_cons_succ, List.setIfInBounds_toArray, World.size_alloc, selR, List.getD_cons_zero, List.getD_cons_succ] at H)
                refine wpAnyH_take (i := 0) (v := ?vq4_0) (get_o0) (by kernel_rfl) (by kernel_rfl) (by kernel_rfl) (by exact fun _ _ _ h => h) (Or.inl ⟨by rfl, ?hyq4_0⟩) (by assumption) ?_
                case hyq4_0 => (intro w hSw; (try dsimp only at hSw); go_simp) <;> with_reducible rfl
                try simp only [Act.put, List.setIfInBounds_toArray, List.set_cons_zero, List.set_cons_succ]
                refine wpAnyH_take (i := 2) (v := ?vq4_2) (get_os (get_os (get_o0))) (by kernel_rfl) (by kernel_rfl) (by kernel_rfl) (by exact fun _ _ _ h => h) (Or.inl ⟨by rfl, ?hyq4_2⟩) (by assumption) ?_
                case hyq4_2 => (intro w hSw; (try dsimp only at hSw); go_simp) <;> with_reducible rfl
                try simp only [Act.put, List.setIfInBounds_toArray, List.set_cons_zero, List.set_cons_succ]
                refine wpAnyH_ready (rs := [1, 3]) (by kernel_rfl) (by simp) ?_
                refine (AllReadyH.cons (get_os (get_o0)) (fun KK hKK => ?_) (AllReadyH.cons (get_os (get_os (get_os (get_o0)))) (fun KK hKK => ?_) AllReadyH.nil))
                · have c1 := (H.out.blk 2 rfl).cell 1; simp only [List.getElem?_toArray, List.getElem?_cons_zero, List.getElem?_cons_succ] at c1
                  go_simp
                  clear c1
                  refine hKK.out _ _ trivial (fun hHeld => ?_)
                  clear hKK KK
                  try simp only [Act.put, List.setIfInBounds_toArray, List.set_cons_zero, List.set_cons_succ]
                  refine wpAnyH_ready (rs := [3]) (by kernel_rfl) (by simp) ?_
                  refine (AllReadyH.cons (get_os (get_os (get_os (get_o0)))) (fun KK hKK => ?_) AllReadyH.nil)
                  go_simp
                  refine (HA.out _ (H.out.rdr 0 rfl)).mono ?_; rintro e' w3 ⟨rfl, hg3, hr3⟩
                  replace H := Lib.hid (H.out.setRdr 0 rfl hg3 hr3); (try simp only [List.set_cons_zero, List.set_cons_succ, List.cons_append, List.nil_append, List.eraseIdx_cons_zero, List.eraseIdx_cons_succ, List.setIfInBounds_toArray, World.size_alloc, selR, List.getD_cons_zero, List.getD_cons_succ] at H)
                  clear hg3 hr3
                  refine hKK.out _ _ trivial (fun hHeld => ?_)
                  clear hKK KK
                  try simp only [Act.put, List.setIfInBounds_toArray, List.set_cons_zero, List.set_cons_succ]
                  refine wpAnyH_ready (rs := [4]) (by kernel_rfl) (by simp) ?_
                  refine (AllReadyH.cons (get_os (get_os (get_os (get_os (get_o0))))) (fun KK hKK => ?_) AllReadyH.nil)
                  refine step_buildSlice1v rfl E_text (.tmp 24) rfl (.string ⟨x.toArray⟩) rfl #[.string ⟨x.toArray⟩] rfl rfl (by omega) ?_
                  replace H := Lib.hid (H.out.alloc #[.string ⟨x.toArray⟩] 9); (try simp only [List.set_cons_zero, List.set_cons_succ, List.cons_append, List.nil_append, List.eraseIdx_cons_zero, List.eraseIdx_cons_succ, List.setIfInBounds_toArray, World.size_alloc, selR, List.getD_cons_zero, List.getD_cons_succ] at H)
                  refine hKK.out _ _ trivial (fun hHeld => ?_)
                  clear hKK KK
                  try simp only [Act.put, List.setIfInBounds_toArray, List.set_cons_zero, List.set_cons_succ]
                  refine wpAnyH_ready (rs := [5]) (by kernel_rfl) (by simp) ?_
                  refine (AllReadyH.cons (get_os (get_os (get_os (get_os (get_os (get_o0)))))) (fun KK hKK => ?_) AllReadyH.nil)
                  refine step_append0 rfl (.tmp 22) (.tmp 25) _ rfl E_text 0 (Nat.zero_le _) _ j _ rfl (H.out.row 5 rfl) _ 1 1 _ rfl (reads_of_block (H.out.blk 6 rfl) rfl) (by simp [Value.oneCell']) (by unfold maxLen; omega) (by omega) ?_
                  intro vq wq howq hgq hatq
                  replace H := Lib.hid (H.out.setRow 5 rfl hgq howq hatq); (try simp only [List.set_cons_zero, List.set_cons_succ, List.cons_append, List.nil_append, List.eraseIdx_cons_zero, List.eraseIdx_cons_succ, List.setIfInBounds_toArray, World.size_alloc, selR, List.getD_cons_zero, List.getD_cons_succ] at H)
                  clear howq hgq hatq
                  obtain ⟨B2, d2, rfl, _⟩ := own_slice (H.out.row 5 rfl)
                  refine hKK.out _ _ trivial (fun hHeld => ?_)
                  clear hKK KK
                  try simp only [Act.put, List.setIfInBounds_toArray, List.set_cons_zero, List.set_cons_succ]
                  refine wpAnyH_ready (rs := [6]) (by kernel_rfl) (by simp) ?_
                  refine (AllReadyH.cons (get_os (get_os (get_os (get_os (get_os (get_os (get_o0))))))) (fun KK hKK => ?_) AllReadyH.nil)
                  go_simp
                  refine hKK.out _ _ trivial (fun hHeld => ?_)
                  clear hKK KK
                  try simp only [Act.put, List.setIfInBounds_toArray, List.set_cons_zero, List.set_cons_succ]
                  refine wpAnyH_ready (rs := [7]) (by kernel_rfl) (by simp) ?_
                  refine (AllReadyH.cons (get_os (get_os (get_os (get_os (get_os (get_os (get_os (get_o0)))))))) (fun KK hKK => ?_) AllReadyH.nil)
                  have c1 := (H.out.blk 2 rfl).cell 1; simp only [List.getElem?_toArray, List.getElem?_cons_zero, List.getElem?_cons_succ] at c1; have f1 := (H.out.blk 2 rfl).frozen 1
                  go_simp
                  replace H := Lib.hid (H.out.setCell 2 rfl 1 (.slice B2 (j + 1) d2)); (try simp only [List.set_cons_zero, List.set_cons_succ, List.cons_append, List.nil_append, List.eraseIdx_cons_zero, List.eraseIdx_cons_succ, List.setIfInBounds_toArray, World.size_alloc, selR, List.getD_cons_zero, List.getD_cons_succ] at H)
                  clear c1 f1
                  refine hKK.out _ _ trivial (fun hHeld => ?_)
                  clear hKK KK
                  try simp only [Act.put, List.setIfInBounds_toArray, List.set_cons_zero, List.set_cons_succ]
                  refine wpAnyH_done (by kernel_rfl) ?_ _
                  clear hHeld
                  replace H := Lib.hid (H.out.sel [0, 1, 2, 3, 4, 5] (by decide) (by simp)); (try simp only [List.set_cons_zero, List.set_cons_succ, List.cons_append, List.nil_append, List.eraseIdx_cons_zero, List.eraseIdx_cons_succ, List.setIfInBounds_toArray, World.size_alloc, selR, List.getD_cons_zero, List.getD_cons_succ] at H)
                  go_wp2_with fail
                  go_roundg (m - (j + 1))
                  case rel => exact ⟨j + 1, ms ++ [x], B2, d2, l3, rfl, by omega, by go_num, by show _ = _; rw [List.length_append, hmc.out]; rfl, HML2, by rw [List.map_append]; exact H, HN⟩
                  case measure => rw [Hgj.out]; omega
                · go_simp
                  refine (HA.out _ (H.out.rdr 0 rfl)).mono ?_; rintro e' w3 ⟨rfl, hg3, hr3⟩
                  replace H := Lib.hid (H.out.setRdr 0 rfl hg3 hr3); (try simp only [List.set_cons_zero, List.set_cons_succ, List.cons_append, List.nil_append, List.eraseIdx_cons_zero, List.eraseIdx_cons_succ, List.setIfInBounds_toArray, World.size_alloc, selR, List.getD_cons_zero, List.getD_cons_succ] at H)
                  clear hg3 hr3
                  refine hKK.out _ _ trivial (fun hHeld => ?_)
                  clear hKK KK
                  try simp only [Act.put, List.setIfInBounds_toArray, List.set_cons_zero, List.set_cons_succ]
                  refine wpAnyH_ready (rs := [1, 4]) (by kernel_rfl) (by simp) ?_
                  refine (AllReadyH.cons (get_os (get_o0)) (fun KK hKK => ?_) (AllReadyH.cons (get_os (get_os (get_os (get_os (get_o0))))) (fun KK hKK => ?_) AllReadyH.nil))
                  · have c1 := (H.out.blk 2 rfl).cell 1; simp only [List.getElem?_toArray, List.getElem?_cons_zero, List.getElem?_cons_succ] at c1
                    go_simp
                    clear c1
                    refine hKK.out _ _ trivial (fun hHeld => ?_)
                    clear hKK KK
                    try simp only [Act.put, List.setIfInBounds_toArray, List.set_cons_zero, List.set_cons_succ]
                    refine wpAnyH_ready (rs := [4]) (by kernel_rfl) (by simp) ?_
                    refine (AllReadyH.cons (get_os (get_os (get_os (get_os (get_o0))))) (fun KK hKK => ?_) AllReadyH.nil)
                    refine step_buildSlice1v rfl E_text (.tmp 24) rfl (.string ⟨x.toArray⟩) rfl #[.string ⟨x.toArray⟩] rfl rfl (by omega) ?_
                    replace H := Lib.hid (H.out.alloc #[.string ⟨x.toArray⟩] 9); (try simp only [List.set_cons_zero, List.set_cons_succ, List.cons_append, List.nil_append, List.eraseIdx_cons_zero, List.eraseIdx_cons_succ, List.setIfInBounds_toArray, World.size_alloc, selR, List.getD_cons_zero, List.getD_cons_succ] at H)
                    refine hKK.out _ _ trivial (fun hHeld => ?_)
                    clear hKK KK
                    try simp only [Act.put, List.setIfInBounds_toArray, List.set_cons_zero, List.set_cons_succ]
                    refine wpAnyH_ready (rs := [5]) (by kernel_rfl) (by simp) ?_
                    refine (AllReadyH.cons (get_os (get_os (get_os (get_os (get_os (get_o0)))))) (fun KK hKK => ?_) AllReadyH.nil)
                    refine step_append0 rfl (.tmp 22) (.tmp 25) _ rfl E_text 0 (Nat.zero_le _) _ j _ rfl (H.out.row 5 rfl) _ 1 1 _ rfl (reads_of_block (H.out.blk 6 rfl) rfl) (by simp [Value.oneCell']) (by unfold maxLen; omega) (by omega) ?_
                    intro vq wq howq hgq hatq
                    replace H := Lib.hid (H.out.setRow 5 rfl hgq howq hatq); (try simp only [List.set_cons_zero, List.set_cons_succ, List.cons_append, List.nil_append, List.eraseIdx_cons_zero, List.eraseIdx_cons_succ, List.setIfInBounds_toArray, World.size_alloc, selR, List.getD_cons_zero, List.getD_cons_succ] at H)
                    clear howq hgq hatq
                    obtain ⟨B2, d2, rfl, _⟩ := own_slice (H.out.row 5 rfl)
                    refine hKK.out _ _ trivial (fun hHeld => ?_)
                    clear hKK KK
                    try simp only [Act.put, List.setIfInBounds_toArray, List.set_cons_zero, List.set_cons_succ]
                    refine wpAnyH_ready (rs := [6]) (by kernel_rfl) (by simp) ?_
                    refine (AllReadyH.cons (get_os (get_os (get_os (get_os (get_os (get_os (get_o0))))))) (fun KK hKK => ?_) AllReadyH.nil)
                    go_simp
                    refine hKK.out _ _ trivial (fun hHeld => ?_)
                    clear hKK KK
                    try simp only [Act.put, List.setIfInBounds_toArray, List.set_cons_zero, List.set_cons_succ]
                    refine wpAnyH_ready (rs := [7]) (by kernel_rfl) (by simp) ?_
                    refine (AllReadyH.cons (get_os (get_os (get_os (get_os (get_os (get_os (get_os (get_o0)))))))) (fun KK hKK => ?_) AllReadyH.nil)
                    have c1 := (H.out.blk 2 rfl).cell 1; simp only [List.getElem?_toArray, List.getElem?_cons_zero, List.getElem?_cons_succ] at c1; have f1 := (H.out.blk 2 rfl).frozen 1
                    go_simp
                    replace H := Lib.hid (H.out.setCell 2 rfl 1 (.slice B2 (j + 1) d2)); (try simp only [List.set_cons_zero, List.set_cons_succ, List.cons_append, List.nil_append, List.eraseIdx_cons_zero, List.eraseIdx_cons_succ, List.setIfInBounds_toArray, World.size_alloc, selR, List.getD_cons_zero, List.getD_cons_succ] at H)
                    clear c1 f1
                    refine hKK.out _ _ trivial (fun hHeld => ?_)
                    clear hKK KK
                    try simp only [Act.put, List.setIfInBounds_toArray, List.set_cons_zero, List.set_cons_succ]
                    refine wpAnyH_done (by kernel_rfl) ?_ _
                    clear hHeld
                    replace H := Lib.hid (H.out.sel [0, 1, 2, 3, 4, 5] (by decide) (by simp)); (try simp only [List.set_cons_zero, List.set_cons_succ, List.cons_append, List.nil_append, List.eraseIdx_cons_zero, List.eraseIdx_cons_succ, List.setIfInBounds_toArray, World.size_alloc, selR, List.getD_cons_zero, List.getD_cons_succ] at H)
                    go_wp2_with fail
                    go_roundg (m - (j + 1))
                    case rel => exact ⟨j + 1, ms ++ [x], B2, d2, l3, rfl, by omega, by go_num, by show _ = _; rw [List.length_append, hmc.out]; rfl, HML2, by rw [List.map_append]; exact H, HN⟩
                    case measure => rw [Hgj.out]; omega
                  · refine step_buildSlice1v rfl E_text (.tmp 24) rfl (.string ⟨x.toArray⟩) rfl #[.string ⟨x.toArray⟩] rfl rfl (by omega) ?_
                    replace H := Lib.hid (H.out.alloc #[.string ⟨x.toArray⟩] 9); (try simp only [List.set_cons_zero, List.set_cons_succ, List.cons_append, List.nil_append, List.eraseIdx_cons_zero, List.eraseIdx_cons_succ, List.setIfInBounds_toArray, World.size_alloc, selR, List.getD_cons_zero, List.getD_cons_succ] at H)
                    refine hKK.out _ _ trivial (fun hHeld => ?_)
                    clear hKK KK
                    try simp only [Act.put, List.setIfInBounds_toArray, List.set_cons_zero, List.set_cons_succ]
                    refine wpAnyH_ready (rs := [1]) (by kernel_rfl) (by simp) ?_
                    refine (AllReadyH.cons (get_os (get_o0)) (fun KK hKK => ?_) AllReadyH.nil)
                    have c1 := (H.out.blk 2 rfl).cell 1; simp only [List.getElem?_toArray, List.getElem?_cons_zero, List.getElem?_cons_succ] at c1
                    go_simp
                    clear c1
                    refine hKK.out _ _ trivial (fun hHeld => ?_)
                    clear hKK KK
                    try simp only [Act.put, List.setIfInBounds_toArray, List.set_cons_zero, List.set_cons_succ]
                    refine wpAnyH_ready (rs := [5]) (by kernel_rfl) (by simp) ?_
                    refine (AllReadyH.cons (get_os (get_os (get_os (get_os (get_os (get_o0)))))) (fun KK hKK => ?_) AllReadyH.nil)
                    refine step_append0 rfl (.tmp 22) (.tmp 25) _ rfl E_text 0 (Nat.zero_le _) _ j _ rfl (H.out.row 5 rfl) _ 1 1 _ rfl (reads_of_block (H.out.blk 6 rfl) rfl) (by simp [Value.oneCell']) (by unfold maxLen; omega) (by omega) ?_
                    intro vq wq howq hgq hatq
                    replace H := Lib.hid (H.out.setRow 5 rfl hgq howq hatq); (try simp only [List.set_cons_zero, List.set_cons_succ, List.cons_append, List.nil_append, List.eraseIdx_cons_zero, List.eraseIdx_cons_succ, List.setIfInBounds_toArray, World.size_alloc, selR, List.getD_cons_zero, List.getD_cons_succ] at H)
                    clear howq hgq hatq
                    obtain ⟨B2, d2, rfl, _⟩ := own_slice (H.out.row 5 rfl)
                    refine hKK.out _ _ trivial (fun hHeld => ?_)
                    clear hKK KK
                    try simp only [Act.put, List.setIfInBounds_toArray, List.set_cons_zero, List.set_cons_succ]
                    refine wpAnyH_ready (rs := [6]) (by kernel_rfl) (by simp) ?_
                    refine (AllReadyH.cons (get_os (get_os (get_os (get_os (get_os (get_os (get_o0))))))) (fun KK hKK => ?_) AllReadyH.nil)
                    go_simp
                    refine hKK.out _ _ trivial (fun hHeld => ?_)
                    clear hKK KK
                    try simp only [Act.put, List.setIfInBounds_toArray, List.set_cons_zero, List.set_cons_succ]
                    refine wpAnyH_ready (rs := [7]) (by kernel_rfl) (by simp) ?_
                    refine (AllReadyH.cons (get_os (get_os (get_os (get_os (get_os (get_os (get_os (get_o0)))))))) (fun KK hKK => ?_) AllReadyH.nil)
                    have c1 := (H.out.blk 2 rfl).cell 1; simp only [List.getElem?_toArray, List.getElem?_cons_zero, List.getElem?_cons_succ] at c1; have f1 := (H.out.blk 2 rfl).frozen 1
                    go_simp
                    replace H := Lib.hid (H.out.setCell 2 rfl 1 (.slice B2 (j + 1) d2)); (try simp only [List.set_cons_zero, List.set_cons_succ, List.cons_append, List.nil_append, List.eraseIdx_cons_zero, List.eraseIdx_cons_succ, List.setIfInBounds_toArray, World.size_alloc, selR, List.getD_cons_zero, List.getD_cons_succ] at H)
                    clear c1 f1
                    refine hKK.out _ _ trivial (fun hHeld => ?_)
                    clear hKK KK
                    try simp only [Act.put, List.setIfInBounds_toArray, List.set_cons_zero, List.set_cons_succ]
                    refine wpAnyH_done (by kernel_rfl) ?_ _
                    clear hHeld
                    replace H := Lib.hid (H.out.sel [0, 1, 2, 3, 4, 5] (by decide) (by simp)); (try simp only [List.set_cons_zero, List.set_cons_succ, List.cons_append, List.nil_append, List.eraseIdx_cons_zero, List.eraseIdx_cons_succ, List.setIfInBounds_toArray, World.size_alloc, selR, List.getD_cons_zero, List.getD_cons_succ] at H)
                    go_wp2_with fail
                    go_roundg (m - (j + 1))
                    case rel => exact ⟨j + 1, ms ++ [x], B2, d2, l3, rfl, by omega, by go_num, by show _ = _; rw [List.length_append, hmc.out]; rfl, HML2, by rw [List.map_append]; exact H, HN⟩
                    case measure => rw [Hgj.out]; omega
            · have HN : Hid (psch l = pschC ⟨acc.map Dm.con, ms⟩ l') := by show _ = _; rw [HE.out, HP.out, show m - j = 0 by omega]; rfl
              clear HP HE
              replace H := Lib.hid (H.out.both 3 4 (by omega) rfl rfl (rX acc A k c) (holds_X (H.out.get 3 rfl) (H.out.get 4 rfl)) (fun g hg => hg)); (try simp only [List.set_cons_zero, List.set_cons_succ, List.cons_append, List.nil_append, List.eraseIdx_cons_zero, List.eraseIdx_cons_succ, List.setIfInBounds_toArray, World.size_alloc, selR, List.getD_cons_zero, List.getD_cons_succ] at H)
              replace H := Lib.hid (H.out.both 3 4 (by omega) rfl rfl (rSch ⟨⟨A, k, c, acc⟩, ⟨B, j, d, ms⟩⟩) (holds_sch (of_X (H.out.get 3 rfl)).1 (of_X (H.out.get 3 rfl)).2 (H.out.get 4 rfl) HML.out hk16 hj3) (fun g hg => hg.elim (fun h => .inl (.inl h)) (fun h => h.elim (fun h => .inl (.inr h)) .inr))); (try simp only [List.set_cons_zero, List.set_cons_succ, List.cons_append, List.nil_append, List.eraseIdx_cons_zero, List.eraseIdx_cons_succ, List.setIfInBounds_toArray, World.size_alloc, selR, List.getD_cons_zero, List.getD_cons_succ] at H)
              obtain ⟨D, hD⟩ : ∃ D : Sch, D = ⟨⟨A, k, c, acc⟩, ⟨B, j, d, ms⟩⟩ := ⟨_, rfl⟩
              have hDs : D.cs = #[.slice A k c, .slice B j d] := by rw [hD]
              have hDc : D.con = ⟨acc.map Dm.con, ms⟩ := by rw [hD]
              rw [← hD, ← hDs] at H
              rw [← hDc] at HN
              clear hD hDs hDc
              go_wp2_with ((with_reducible show wpList _ _ _ (⟨some 29, _, _, _, _, _⟩ :: _) _ _); (refine wpList_load_blk rfl rowSch (.tmp 3) rfl _ rfl (H.out.blk 2 rfl) rfl ?_))
              refine (schcheck_any D _ (H.out.at_ 3 rfl).rd (by have := (H.out.at_ 3 rfl).dn; omega) (by have := (H.out.at_ 3 rfl).mn; omega) (H.out.at_ 3 rfl).small).mono ?_; rintro e w5 ⟨rfl, hb5⟩
              replace H := Lib.hid (H.out.bel hb5); (try simp only [List.set_cons_zero, List.set_cons_succ, List.cons_append, List.nil_append, List.eraseIdx_cons_zero, List.eraseIdx_cons_succ, List.setIfInBounds_toArray, World.size_alloc, selR, List.getD_cons_zero, List.getD_cons_succ] at H)
              clear hb5
              by_cases hE0 : schErr D.con = 0
              · have HN2 : Hid (psch l = .ok (D.con, l')) := by show _ = _; rw [HN.out]; unfold pschC; rw [if_pos hE0]
                rw [hE0]
                clear hE0 HN
                go_wp2_with fail
                refine (want_yes b s l' 0 _ (H.out.rdr 0 rfl)).mono ?_; rintro e w6 ⟨rfl, rfl⟩
                go_wp2_with (first | ((with_reducible show wpList _ _ _ (⟨some 36, _, _, _, _, _⟩ :: _) _ _); (refine wpList_load_blk rfl rowSch (.tmp 3) rfl _ rfl (H.out.blk 2 rfl) rfl ?_)) | ((with_reducible show wpList _ _ _ (⟨_, .store _ (.tmp 2) _, _, _, _, _⟩ :: _) _ _); (refine wpList_store_blk rfl rowSch (.tmp 2) (.tmp 36) rfl _ rfl (H.out.blk 1 rfl) rfl (D.cs) rfl rfl (sch_one D) ?_; intro wq bq hgq; replace H := Lib.hid (H.out.setBlk 1 rfl hgq bq); (try simp only [List.set_cons_zero, List.set_cons_succ, List.cons_append, List.nil_append, List.eraseIdx_cons_zero, List.eraseIdx_cons_succ, List.setIfInBounds_toArray, World.size_alloc, selR, List.getD_cons_zero, List.getD_cons_succ] at H); clear hgq bq)))
                refine bodyPost_ret (results_blk1 rfl rowSch rfl (H.out.blk 1 rfl) rfl) rfl ?_
                rw [HN2.out]
                exact ⟨D, rfl, rfl, H.out.fr.grown, H.out.rdr 0 rfl, H.out.get 3 rfl, H.out.new1 3 0 (by omega) rfl rfl rfl⟩
              · have HN2 : Hid (psch l = .error (schErr D.con)) := by show _ = _; rw [HN.out]; unfold pschC; rw [if_neg hE0]
                have HW : Hid (wantErr (schErr D.con) = schErr D.con) := by show _ = _; unfold wantErr; rw [if_neg hE0]
                have dE : (schErr D.con == 0) = false := by simpa using hE0
                clear hE0 HN
                go_wp2_with fail
                refine (want_no b s l' (schErr D.con) _ (H.out.rdr 0 rfl)).mono ?_; rintro e w6 ⟨rfl, rfl⟩
                go_wp2_with fail
                refine ⟨rfl, ?_⟩
                rw [HN2.out, HW.out]
                exact ⟨rfl, H.out.fr.grown, _, H.out.rdr 0 rfl⟩

end Go.Proofs.Ytnekknemjhlgdaa
