/- A call of the program's reader (law 4's ask), while a reading goes on. -/
import Derived.Test.YtllgcehgdpgnnaaTakeG
import Derived.Test.YtllgcehgdpgnnaaPair
import Derived.Test.YtllgcehgdpgnnaaScan
namespace Go.Proofs.Ytllgcehgdpgnnaa
open Go.RowKit
set_option linter.unusedVariables false
set_option linter.unusedSimpArgs false

/-- What a call tells. -/
def pask (a : Stp) (l : List UInt8) : PR (Int × List UInt8) :=
  if a.k = 1 then pbind2 (pnum a.n l) (fun x => ((x : Int), []))
  else if a.k = 2 then pbind2 (pint l) (fun x => (x, []))
  else if a.k = 3 then pbind2 (pfix a.n l) (fun x => (0, x))
  else if a.k = 4 then pbind2 (pbyte l) (fun x => ((x.toNat : Int), []))
  else if a.k = 5 then pbind2 (ptxt a.n l) (fun x => (0, x))
  else if a.k = 6 then .ok (((l.length : Int), []), l)
  else pbind2 (pwant a.is a.n l) (fun _ => (0, []))
theorem rowHrd : RowTy Try.prog 51 2 := ⟨⟨_, Try.underlying51, rfl⟩, by kernel_rfl⟩
theorem rowStp : RowTy Try.prog 49 3 := ⟨⟨_, Try.underlying49, rfl⟩, by kernel_rfl⟩

set_option maxRecDepth 100000 in
set_option maxHeartbeats 1000000 in
theorem ask_any (b : Nat) (s l : List UInt8) (a : Stp) (w : World) (hR : Rdr w b s l) (ha : a.ok) :
    Calls Try.prog 29 #[.pointer (some ⟨b, 0, none⟩), .agg a.cs] w (RPost b s (pask a l) (fun h => hrd h.1 h.2) w) := by
  obtain ⟨k, n, is⟩ := a
  obtain ⟨_, hn⟩ := ha
  simp only [Stp.cs]
  simp only at hn
  rcases kind_cases k with rfl | rfl | rfl | rfl | rfl | rfl | ⟨k1, k2, k3, k4, k5, k6⟩
  · have HR : Hid (Rdr ((w.alloc (.cells #[.int .i64 1, .int .i64 n, .bool is] 49)).alloc (.cells #[.int .i64 0, .string ⟨#[]⟩] 51)) b s l) := hR.bel (((Bel.refl w).alloc _).alloc _)
    have HG : Hid (w.grownBy ((w.alloc (.cells #[.int .i64 1, .int .i64 n, .bool is] 49)).alloc (.cells #[.int .i64 0, .string ⟨#[]⟩] 51)) (some b)) := grown_of_bel (((Bel.refl w).alloc _).alloc _) _
    have BK := Blk.new (w.alloc (.cells #[.int .i64 1, .int .i64 n, .bool is] 49)) 51 #[.int .i64 0, .string ⟨#[]⟩]
    rw [World.size_alloc] at BK
    have hb := hR.lt
    have HC := Lib.hid (num_any b s l n ((w.alloc (.cells #[.int .i64 1, .int .i64 n, .bool is] 49)).alloc (.cells #[.int .i64 0, .string ⟨#[]⟩] 51)) HR.out hn.1 hn.2)
    clear hR
    go_enter Try.func29, Try.ntmps29
    go_wp2_with fail
    cases hp : pnum n l with
    | error e =>
      have HE : Hid (pask ⟨1, n, is⟩ l = .error e) := by show pbind2 (pnum n l) _ = _; rw [hp]; rfl
      rw [hp] at HC
      refine HC.out.mono ?_; rintro e' w1 ⟨rfl, hg, hr⟩
      clear hp
      go_wp2_with fail
      refine ⟨rfl, ?_⟩
      rw [HE.out]
      exact ⟨rfl, HG.out.trans hg, hr⟩
    | ok q =>
      obtain ⟨x, r⟩ := q
      have HE : Hid (pask ⟨1, n, is⟩ l = .ok ((x, []), r)) := by show pbind2 (pnum n l) _ = _; rw [hp]; rfl
      rw [hp] at HC
      refine HC.out.mono ?_; rintro e' w1 ⟨rfl, hg, hr⟩
      have BK1 := BK.grown hg (by simp; omega)
      have HG1 := Lib.hid (HG.out.trans hg)
      have HR1 := Lib.hid hr
      clear hp hg hr
      go_wp2_with ((with_reducible show wpList _ _ _ (⟨_, .store _ (.tmp 4) _, _, _, _, _⟩ :: _) _ _); refine wpList_store_blk rfl rowHrd (.tmp 4) (.tmp 13) rfl (w.heap.size + 1) rfl BK1 rfl #[.int .i64 x, .string ⟨#[]⟩] rfl rfl (by simp [Value.oneCell']) ?_; intro w7 bC hg7)
      refine bodyPost_ret (results_blk1 rfl rowHrd rfl bC rfl) rfl ?_
      rw [HE.out]
      exact ⟨rfl, HG1.out.andThen hg7 (fun k e => by injection e with e; exact .inl (by omega)), HR1.out.grown hg7 (by simp; omega)⟩
  · have HR : Hid (Rdr ((w.alloc (.cells #[.int .i64 2, .int .i64 n, .bool is] 49)).alloc (.cells #[.int .i64 0, .string ⟨#[]⟩] 51)) b s l) := hR.bel (((Bel.refl w).alloc _).alloc _)
    have HG : Hid (w.grownBy ((w.alloc (.cells #[.int .i64 2, .int .i64 n, .bool is] 49)).alloc (.cells #[.int .i64 0, .string ⟨#[]⟩] 51)) (some b)) := grown_of_bel (((Bel.refl w).alloc _).alloc _) _
    have BK := Blk.new (w.alloc (.cells #[.int .i64 2, .int .i64 n, .bool is] 49)) 51 #[.int .i64 0, .string ⟨#[]⟩]
    rw [World.size_alloc] at BK
    have hb := hR.lt
    have HC := Lib.hid (int_any b s l ((w.alloc (.cells #[.int .i64 2, .int .i64 n, .bool is] 49)).alloc (.cells #[.int .i64 0, .string ⟨#[]⟩] 51)) HR.out)
    clear hR
    go_enter Try.func29, Try.ntmps29
    go_wp2_with fail
    cases hp : pint l with
    | error e =>
      have HE : Hid (pask ⟨2, n, is⟩ l = .error e) := by show pbind2 (pint l) _ = _; rw [hp]; rfl
      rw [hp] at HC
      refine HC.out.mono ?_; rintro e' w1 ⟨rfl, hg, hr⟩
      clear hp
      go_wp2_with fail
      refine ⟨rfl, ?_⟩
      rw [HE.out]
      exact ⟨rfl, HG.out.trans hg, hr⟩
    | ok q =>
      obtain ⟨x, r⟩ := q
      have HE : Hid (pask ⟨2, n, is⟩ l = .ok ((x, []), r)) := by show pbind2 (pint l) _ = _; rw [hp]; rfl
      rw [hp] at HC
      refine HC.out.mono ?_; rintro e' w1 ⟨rfl, hg, hr⟩
      have BK1 := BK.grown hg (by simp; omega)
      have HG1 := Lib.hid (HG.out.trans hg)
      have HR1 := Lib.hid hr
      clear hp hg hr
      go_wp2_with ((with_reducible show wpList _ _ _ (⟨_, .store _ (.tmp 4) _, _, _, _, _⟩ :: _) _ _); refine wpList_store_blk rfl rowHrd (.tmp 4) (.tmp 18) rfl (w.heap.size + 1) rfl BK1 rfl #[.int .i64 x, .string ⟨#[]⟩] rfl rfl (by simp [Value.oneCell']) ?_; intro w7 bC hg7)
      refine bodyPost_ret (results_blk1 rfl rowHrd rfl bC rfl) rfl ?_
      rw [HE.out]
      exact ⟨rfl, HG1.out.andThen hg7 (fun k e => by injection e with e; exact .inl (by omega)), HR1.out.grown hg7 (by simp; omega)⟩
  · have HR : Hid (Rdr ((w.alloc (.cells #[.int .i64 3, .int .i64 n, .bool is] 49)).alloc (.cells #[.int .i64 0, .string ⟨#[]⟩] 51)) b s l) := hR.bel (((Bel.refl w).alloc _).alloc _)
    have HG : Hid (w.grownBy ((w.alloc (.cells #[.int .i64 3, .int .i64 n, .bool is] 49)).alloc (.cells #[.int .i64 0, .string ⟨#[]⟩] 51)) (some b)) := grown_of_bel (((Bel.refl w).alloc _).alloc _) _
    have BK := Blk.new (w.alloc (.cells #[.int .i64 3, .int .i64 n, .bool is] 49)) 51 #[.int .i64 0, .string ⟨#[]⟩]
    rw [World.size_alloc] at BK
    have hb := hR.lt
    have HC := Lib.hid (fix_any b s l n ((w.alloc (.cells #[.int .i64 3, .int .i64 n, .bool is] 49)).alloc (.cells #[.int .i64 0, .string ⟨#[]⟩] 51)) HR.out hn.1 hn.2)
    clear hR
    go_enter Try.func29, Try.ntmps29
    go_wp2_with fail
    cases hp : pfix n l with
    | error e =>
      have HE : Hid (pask ⟨3, n, is⟩ l = .error e) := by show pbind2 (pfix n l) _ = _; rw [hp]; rfl
      rw [hp] at HC
      refine HC.out.mono ?_; rintro e' w1 ⟨rfl, hg, hr⟩
      clear hp
      go_wp2_with fail
      refine ⟨rfl, ?_⟩
      rw [HE.out]
      exact ⟨rfl, HG.out.trans hg, hr⟩
    | ok q =>
      obtain ⟨x, r⟩ := q
      have HE : Hid (pask ⟨3, n, is⟩ l = .ok ((0, x), r)) := by show pbind2 (pfix n l) _ = _; rw [hp]; rfl
      rw [hp] at HC
      refine HC.out.mono ?_; rintro e' w1 ⟨rfl, hg, hr⟩
      have BK1 := BK.grown hg (by simp; omega)
      have HG1 := Lib.hid (HG.out.trans hg)
      have HR1 := Lib.hid hr
      clear hp hg hr
      go_wp2_with ((with_reducible show wpList _ _ _ (⟨_, .store _ (.tmp 4) _, _, _, _, _⟩ :: _) _ _); refine wpList_store_blk rfl rowHrd (.tmp 4) (.tmp 25) rfl (w.heap.size + 1) rfl BK1 rfl #[.int .i64 0, .string ⟨x.toArray⟩] rfl rfl (by simp [Value.oneCell']) ?_; intro w7 bC hg7)
      refine bodyPost_ret (results_blk1 rfl rowHrd rfl bC rfl) rfl ?_
      rw [HE.out]
      exact ⟨rfl, HG1.out.andThen hg7 (fun k e => by injection e with e; exact .inl (by omega)), HR1.out.grown hg7 (by simp; omega)⟩
  · have HR : Hid (Rdr ((w.alloc (.cells #[.int .i64 4, .int .i64 n, .bool is] 49)).alloc (.cells #[.int .i64 0, .string ⟨#[]⟩] 51)) b s l) := hR.bel (((Bel.refl w).alloc _).alloc _)
    have HG : Hid (w.grownBy ((w.alloc (.cells #[.int .i64 4, .int .i64 n, .bool is] 49)).alloc (.cells #[.int .i64 0, .string ⟨#[]⟩] 51)) (some b)) := grown_of_bel (((Bel.refl w).alloc _).alloc _) _
    have BK := Blk.new (w.alloc (.cells #[.int .i64 4, .int .i64 n, .bool is] 49)) 51 #[.int .i64 0, .string ⟨#[]⟩]
    rw [World.size_alloc] at BK
    have hb := hR.lt
    have HC := Lib.hid (byte_any b s l ((w.alloc (.cells #[.int .i64 4, .int .i64 n, .bool is] 49)).alloc (.cells #[.int .i64 0, .string ⟨#[]⟩] 51)) HR.out)
    clear hR
    go_enter Try.func29, Try.ntmps29
    go_wp2_with fail
    cases hp : pbyte l with
    | error e =>
      have HE : Hid (pask ⟨4, n, is⟩ l = .error e) := by show pbind2 (pbyte l) _ = _; rw [hp]; rfl
      rw [hp] at HC
      refine HC.out.mono ?_; rintro e' w1 ⟨rfl, hg, hr⟩
      clear hp
      go_wp2_with fail
      refine ⟨rfl, ?_⟩
      rw [HE.out]
      exact ⟨rfl, HG.out.trans hg, hr⟩
    | ok q =>
      obtain ⟨x, r⟩ := q
      have HE : Hid (pask ⟨4, n, is⟩ l = .ok (((x.toNat : Nat), []), r)) := by show pbind2 (pbyte l) _ = _; rw [hp]; rfl
      rw [hp] at HC
      refine HC.out.mono ?_; rintro e' w1 ⟨rfl, hg, hr⟩
      have BK1 := BK.grown hg (by simp; omega)
      have HG1 := Lib.hid (HG.out.trans hg)
      have HR1 := Lib.hid hr
      clear hp hg hr
      have cv : IntKind.i64.wrap (x.toNat : Int) = (x.toNat : Int) := IntWalk.i64_in _ (by have := x.toNat_lt; omega)
      go_wp2_with ((with_reducible show wpList _ _ _ (⟨_, .store _ (.tmp 4) _, _, _, _, _⟩ :: _) _ _); refine wpList_store_blk rfl rowHrd (.tmp 4) (.tmp 31) rfl (w.heap.size + 1) rfl BK1 rfl #[.int .i64 (x.toNat : Nat), .string ⟨#[]⟩] rfl rfl (by simp [Value.oneCell']) ?_; intro w7 bC hg7)
      refine bodyPost_ret (results_blk1 rfl rowHrd rfl bC rfl) rfl ?_
      rw [HE.out]
      exact ⟨rfl, HG1.out.andThen hg7 (fun k e => by injection e with e; exact .inl (by omega)), HR1.out.grown hg7 (by simp; omega)⟩
  · have HR : Hid (Rdr ((w.alloc (.cells #[.int .i64 5, .int .i64 n, .bool is] 49)).alloc (.cells #[.int .i64 0, .string ⟨#[]⟩] 51)) b s l) := hR.bel (((Bel.refl w).alloc _).alloc _)
    have HG : Hid (w.grownBy ((w.alloc (.cells #[.int .i64 5, .int .i64 n, .bool is] 49)).alloc (.cells #[.int .i64 0, .string ⟨#[]⟩] 51)) (some b)) := grown_of_bel (((Bel.refl w).alloc _).alloc _) _
    have BK := Blk.new (w.alloc (.cells #[.int .i64 5, .int .i64 n, .bool is] 49)) 51 #[.int .i64 0, .string ⟨#[]⟩]
    rw [World.size_alloc] at BK
    have hb := hR.lt
    have HC := Lib.hid (text_any b s l n ((w.alloc (.cells #[.int .i64 5, .int .i64 n, .bool is] 49)).alloc (.cells #[.int .i64 0, .string ⟨#[]⟩] 51)) HR.out hn.1 hn.2)
    clear hR
    go_enter Try.func29, Try.ntmps29
    go_wp2_with fail
    cases hp : ptxt n l with
    | error e =>
      have HE : Hid (pask ⟨5, n, is⟩ l = .error e) := by show pbind2 (ptxt n l) _ = _; rw [hp]; rfl
      rw [hp] at HC
      refine HC.out.mono ?_; rintro e' w1 ⟨rfl, hg, hr⟩
      clear hp
      go_wp2_with fail
      refine ⟨rfl, ?_⟩
      rw [HE.out]
      exact ⟨rfl, HG.out.trans hg, hr⟩
    | ok q =>
      obtain ⟨x, r⟩ := q
      have HE : Hid (pask ⟨5, n, is⟩ l = .ok ((0, x), r)) := by show pbind2 (ptxt n l) _ = _; rw [hp]; rfl
      rw [hp] at HC
      refine HC.out.mono ?_; rintro e' w1 ⟨rfl, hg, hr⟩
      have BK1 := BK.grown hg (by simp; omega)
      have HG1 := Lib.hid (HG.out.trans hg)
      have HR1 := Lib.hid hr
      clear hp hg hr
      go_wp2_with ((with_reducible show wpList _ _ _ (⟨_, .store _ (.tmp 4) _, _, _, _, _⟩ :: _) _ _); refine wpList_store_blk rfl rowHrd (.tmp 4) (.tmp 38) rfl (w.heap.size + 1) rfl BK1 rfl #[.int .i64 0, .string ⟨x.toArray⟩] rfl rfl (by simp [Value.oneCell']) ?_; intro w7 bC hg7)
      refine bodyPost_ret (results_blk1 rfl rowHrd rfl bC rfl) rfl ?_
      rw [HE.out]
      exact ⟨rfl, HG1.out.andThen hg7 (fun k e => by injection e with e; exact .inl (by omega)), HR1.out.grown hg7 (by simp; omega)⟩
  · have HR : Hid (Rdr ((w.alloc (.cells #[.int .i64 6, .int .i64 n, .bool is] 49)).alloc (.cells #[.int .i64 0, .string ⟨#[]⟩] 51)) b s l) := hR.bel (((Bel.refl w).alloc _).alloc _)
    have HG : Hid (w.grownBy ((w.alloc (.cells #[.int .i64 6, .int .i64 n, .bool is] 49)).alloc (.cells #[.int .i64 0, .string ⟨#[]⟩] 51)) (some b)) := grown_of_bel (((Bel.refl w).alloc _).alloc _) _
    have BK := Blk.new (w.alloc (.cells #[.int .i64 6, .int .i64 n, .bool is] 49)) 51 #[.int .i64 0, .string ⟨#[]⟩]
    rw [World.size_alloc] at BK
    have hb := hR.lt
    have HE : Hid (pask ⟨6, n, is⟩ l = .ok (((l.length : Int), []), l)) := rfl
    clear hR
    go_enter Try.func29, Try.ntmps29
    go_wp2_with fail
    refine (left_any b s l _ HR.out).mono ?_; rintro e' w1 ⟨rfl, hb1⟩
    have BK1 := BK.bel hb1
    have HG1 := Lib.hid (HG.out.trans (grown_of_bel hb1 _))
    have HR1 := Lib.hid (HR.out.bel hb1)
    clear hb1
    go_wp2_with ((with_reducible show wpList _ _ _ (⟨_, .store _ (.tmp 4) _, _, _, _, _⟩ :: _) _ _); refine wpList_store_blk rfl rowHrd (.tmp 4) (.tmp 43) rfl (w.heap.size + 1) rfl BK1 rfl #[.int .i64 (l.length : Nat), .string ⟨#[]⟩] rfl rfl (by simp [Value.oneCell']) ?_; intro w7 bC hg7)
    refine bodyPost_ret (results_blk1 rfl rowHrd rfl bC rfl) rfl ?_
    rw [HE.out]
    exact ⟨rfl, HG1.out.andThen hg7 (fun k e => by injection e with e; exact .inl (by omega)), HR1.out.grown hg7 (by simp; omega)⟩
  · have HR : Hid (Rdr ((w.alloc (.cells #[.int .i64 k, .int .i64 n, .bool is] 49)).alloc (.cells #[.int .i64 0, .string ⟨#[]⟩] 51)) b s l) := hR.bel (((Bel.refl w).alloc _).alloc _)
    have HG : Hid (w.grownBy ((w.alloc (.cells #[.int .i64 k, .int .i64 n, .bool is] 49)).alloc (.cells #[.int .i64 0, .string ⟨#[]⟩] 51)) (some b)) := grown_of_bel (((Bel.refl w).alloc _).alloc _) _
    have BK := Blk.new (w.alloc (.cells #[.int .i64 k, .int .i64 n, .bool is] 49)) 51 #[.int .i64 0, .string ⟨#[]⟩]
    rw [World.size_alloc] at BK
    have hb := hR.lt
    have hk : pask ⟨k, n, is⟩ l = pbind2 (pwant is n l) (fun _ => (0, [])) := by
      simp only [beq_eq_false_iff_ne] at k1 k2 k3 k4 k5 k6
      unfold pask
      simp [k1, k2, k3, k4, k5, k6]
    cases is with
    | false =>
      have HE : Hid (pask ⟨k, n, false⟩ l = .error (wantErr n)) := by show _ = _; rw [hk]; rfl
      clear hR hk
      go_enter Try.func29, Try.ntmps29
      go_wp2_with fail
      refine (want_no b s l n _ HR.out).mono ?_; rintro e' w1 ⟨rfl, rfl⟩
      go_wp2_with fail
      refine ⟨rfl, ?_⟩
      rw [HE.out]
      exact ⟨rfl, HG.out, _, HR.out⟩
    | true =>
      have HE : Hid (pask ⟨k, n, true⟩ l = .ok ((0, []), l)) := by show _ = _; rw [hk]; rfl
      clear hR hk
      go_enter Try.func29, Try.ntmps29
      go_wp2_with fail
      refine (want_yes b s l n _ HR.out).mono ?_; rintro e' w1 ⟨rfl, rfl⟩
      go_wp2_with ((with_reducible show wpList _ _ _ (⟨_, .store _ (.tmp 4) _, _, _, _, _⟩ :: _) _ _); refine wpList_store_blk rfl rowHrd (.tmp 4) (.tmp 50) rfl (w.heap.size + 1) rfl BK rfl #[.int .i64 0, .string ⟨#[]⟩] rfl rfl (by simp [Value.oneCell']) ?_; intro w7 bC hg7)
      refine bodyPost_ret (results_blk1 rfl rowHrd rfl bC rfl) rfl ?_
      rw [HE.out]
      exact ⟨rfl, HG.out.andThen hg7 (fun k e => by injection e with e; exact .inl (by omega)), HR.out.grown hg7 (by simp; omega)⟩

end Go.Proofs.Ytllgcehgdpgnnaa
