/- The walk of the law FactOrder. -/
import Derived.Test.YtbociponcacmpaaFactM
namespace Go.Proofs.Ytbociponcacmpaa
open Go.RowKit
set_option linter.unusedVariables false
attribute [local go_sem] fct_get0

theorem E_agF : ElemInfo Try.prog 36 35 10 80 := ElemInfo.mk' (z := .agg Ag.zero.cs) Try.underlying36 (by kernel_rfl) rfl (by omega)
theorem agsC_snoc (l : List Ag) (a : Ag) : agsCells (l ++ [a]) = agsCells l ++ a.cs.toList := by simp [agsCells]
theorem agsF_snoc {l : List Fct} {k : Nat} {f : Fct} (h : l[k]? = some f) : agsF (l.take (k + 1)) = agsF (l.take k) ++ [f.ag] := by
  rw [List.take_add_one, h]
  simp [agsF]
theorem Gath.row {w0 w : World} {v : Value} {fs : List Fct} (h : Gath w0 w v fs) (hn : fs.length ≤ 1000) : ∃ x : Row Fct, v = x.v ∧ x.ok w ∧ x.l = fs ∧ x.n = fs.length := by
  have hcap := own_cap h.own
  have hr : ∀ A c, v = .slice A fs.length c → Rd w 11 A fs.length (fs.flatMap Cel.cells) := fun A c e => by have := h.own; rw [e] at this; exact Rd.of_own this
  obtain ⟨A, c, rfl, hc⟩ := own_slice h.own
  exact ⟨⟨A, fs.length, c, fs⟩, rfl, ⟨hr A c rfl, h.ok, hc, hcap A c rfl, by simp only [Cel.bytes]; omega⟩, rfl, rfl⟩

set_option maxRecDepth 100000 in
set_option maxHeartbeats 1000000 in
theorem factOrder_main (x y : Row Fct) (w : World) (hx : x.ok w) (hy : y.ok w) (hF : fewF 60 x.l = true) (hG : fewF 60 y.l = true) :
    Calls Try.prog 14 #[x.v, y.v] w fun e w' => e = .returned (.bool true) ∧ Bel w w' := by
  have hn : x.n ≤ 60 := by have := fewF_len hF; rw [hx.len] at this; exact this
  have hm : y.n ≤ 60 := by have := fewF_len hG; rw [hy.len] at this; exact this
  have hlen : Hid (x.l.length = x.n) := hx.len
  have Hx := Lib.hid hx
  have Hy := Lib.hid hy
  have HF := Lib.hid hF
  have HG := Lib.hid hG
  clear hx hy hF hG
  obtain ⟨A, n, c, l⟩ := x
  obtain ⟨B, m, d, q⟩ := y
  simp only [Row.v] at *
  go_enter Try.func14, Try.ntmps14
  go_wp2_with fail
  refine (few19_any ⟨A, n, c, l⟩ _ _ Hx.out (by omega) (by omega)).mono ?_; rintro e w1 ⟨rfl, rfl⟩
  rw [show Int.toNat 60 = 60 from rfl, HF.out]
  go_wp2_with fail
  refine (few19_any ⟨B, m, d, q⟩ _ _ Hy.out (by omega) (by omega)).mono ?_; rintro e w1 ⟨rfl, rfl⟩
  rw [show Int.toNat 60 = 60 from rfl, HG.out]
  go_wp2
  go_loopg [28] n (fun gg i wr => ∃ k : Nat, gg = n - k ∧ k ≤ n ∧ i = .int .i64 k ∧ Bel w wr)
  case atStart => exact ⟨0, rfl, by omega, rfl, Bel.refl _⟩
  case round =>
    obtain ⟨k, hgk, hk, rfl, hB⟩ := hrel
    have Hgk := Lib.hid hgk
    clear hgk
    by_cases hlt : k < n
    · obtain ⟨b, o, f, rfl, hb, hf, hfo, _, hrf, _⟩ := (Hx.out.mono hB).fct hlt
      have hBa : Bel w (wr.alloc (.cells f.cs 79)) := hB.alloc _
      have c6 := Blk.new wr 79 f.cs
      have Hfo : Hid (f.ok (wr.alloc (.cells f.cs 79))) := ⟨hfo.ks.mono ((Bel.refl wr).alloc _), hfo.ag⟩
      clear hf hfo
      go_wp2_with (first
        | ((with_reducible show wpList _ _ _ (⟨some 31, _, _, _, _, _⟩ :: _) _ _); refine wpList_load_row_at rfl rowFct (.tmp 30) rfl b (o + k * 11) rfl f.cs rfl hrf ?_)
        | ((with_reducible show wpList _ _ _ (⟨_, .store _ (.tmp 6) _, _, _, _, _⟩ :: _) _ _); refine wpList_store_new rfl rowFct (.tmp 6) (.tmp 31) rfl rfl rfl f.cs rfl rfl (fct_one _) ?_))
      generalize wr.alloc (.cells f.cs 79) = W at *
      generalize wr.heap.size = g6 at *
      obtain ⟨wo, rfl⟩ : ∃ wo : World, wo = wr := ⟨_, rfl⟩
      go_loopg [34] m (fun gg i wx => ∃ j : Nat, gg = m - j ∧ j ≤ m ∧ i = .int .i64 j ∧ Bel W wx)
      case atStart => exact ⟨0, rfl, by omega, rfl, Bel.refl _⟩
      case round =>
        obtain ⟨j, hgj, hj, rfl, hC⟩ := hrel
        have Hgj := Lib.hid hgj
        clear hgj
        by_cases hlt2 : j < m
        · obtain ⟨b', o', g, rfl, hb', hg, hgo, _, hrg, _⟩ := ((Hy.out.mono hBa).mono hC).fct hlt2
          have hCa : Bel W (wr.alloc (.cells g.cs 79)) := hC.alloc _
          have e6 := c6.bel hCa
          have e8 := Blk.new wr 79 g.cs
          have Hgo : Hid (g.ok (wr.alloc (.cells g.cs 79))) := ⟨hgo.ks.mono ((Bel.refl wr).alloc _), hgo.ag⟩
          have Hf2 : Hid (f.ok (wr.alloc (.cells g.cs 79))) := ⟨Hfo.out.ks.mono hCa, Hfo.out.ag⟩
          clear hg hgo
          have hrange := cmpK_range f.ks.l g.ks.l
          have hsw := cmpK_swap f.ks.l g.ks.l
          obtain ⟨r, HR⟩ : ∃ r, Hid (cmpK f.ks.l g.ks.l = r) := ⟨_, rfl⟩
          have HL : Hid (lessK f.ks.l g.ks.l = (r == -1)) := by show _ = _; unfold lessK; rw [HR.out]
          have HM : Hid (lessK g.ks.l f.ks.l = (r == 1)) := by
            show _ = _
            unfold lessK
            rw [hsw, HR.out]
            rw [Bool.eq_iff_iff, beq_iff_eq, beq_iff_eq]
            omega
          rw [HR.out] at hrange
          clear hsw
          obtain ⟨g8, Hg8⟩ : ∃ g8, Hid (wr.heap.size = g8) := ⟨_, rfl⟩
          rcases hrange with rfl | rfl | rfl
          · have HL2 : Hid (lessK f.ks.l g.ks.l = true) := HL.out
            have HM2 : Hid (lessK g.ks.l f.ks.l = false) := HM.out
            clear HL HM
            go_wp2_with (first
              | ((with_reducible show wpList _ _ _ (⟨some 37, _, _, _, _, _⟩ :: _) _ _); refine wpList_load_row_at rfl rowFct (.tmp 36) rfl b' (o' + j * 11) rfl g.cs rfl hrg ?_)
              | ((with_reducible show wpList _ _ _ (⟨_, .store _ (.tmp 8) _, _, _, _, _⟩ :: _) _ _); refine wpList_store_new rfl rowFct (.tmp 8) (.tmp 37) rfl rfl rfl g.cs rfl rfl (fct_one _) ?_)
              | ((with_reducible show wpList _ _ _ (⟨some 38, _, _, _, _, _⟩ :: _) _ _); refine wpList_load_blkG (by first | rfl | go_simp) rowFct (.tmp 6) (by rfl) g6 (by rfl) e6 rfl ?_)
              | ((with_reducible show wpList _ _ _ (⟨some 39, _, _, _, _, _⟩ :: _) _ _); refine wpList_load_blkG (by first | rfl | go_simp) rowFct (.tmp 8) (by rfl) wr.heap.size (by rfl) e8 rfl ?_))
            refine (less_val HL2.out Hf2.out Hgo.out).mono ?_; rintro e w3 ⟨rfl, hb3⟩
            have h6 := e6.bel hb3
            have h8 := e8.bel hb3
            have Hf3 : Hid (f.ok w3) := ⟨Hf2.out.ks.mono hb3, Hf2.out.ag⟩
            have Hg3 : Hid (g.ok w3) := ⟨Hgo.out.ks.mono hb3, Hgo.out.ag⟩
            have hC3 := hCa.trans hb3
            clear hb3 e6 e8 Hf2 Hgo hCa
            go_wp2_with (first
              | ((with_reducible show wpList _ _ _ (⟨some 41, _, _, _, _, _⟩ :: _) _ _); refine wpList_load_blkG (by first | rfl | go_simp) rowFct (.tmp 8) (by rfl) wr.heap.size (by rfl) h8 rfl ?_)
              | ((with_reducible show wpList _ _ _ (⟨some 42, _, _, _, _, _⟩ :: _) _ _); refine wpList_load_blkG (by first | rfl | go_simp) rowFct (.tmp 6) (by rfl) g6 (by rfl) h6 rfl ?_))
            refine (less_val HM2.out Hg3.out Hf3.out).mono ?_; rintro e w4 ⟨rfl, hb4⟩
            have i6 := h6.bel hb4
            have i8 := h8.bel hb4
            have Hf4 : Hid (f.ok w4) := ⟨Hf3.out.ks.mono hb4, Hf3.out.ag⟩
            have Hg4 : Hid (g.ok w4) := ⟨Hg3.out.ks.mono hb4, Hg3.out.ag⟩
            have hC4 := hC3.trans hb4
            clear hb4 h6 h8 Hf3 Hg3 hC3
            go_wp2_with (first
              | ((with_reducible show wpList _ _ _ (⟨some 44, _, _, _, _, _⟩ :: _) _ _); refine wpList_load_blkG (by first | rfl | go_simp) rowFct (.tmp 6) (by rfl) g6 (by rfl) i6 rfl ?_)
              | ((with_reducible show wpList _ _ _ (⟨some 45, _, _, _, _, _⟩ :: _) _ _); refine wpList_load_blkG (by first | rfl | go_simp) rowFct (.tmp 8) (by rfl) wr.heap.size (by rfl) i8 rfl ?_))
            refine (fcompare_val HR.out Hf4.out Hg4.out).mono ?_; rintro e w5 ⟨rfl, hb5⟩
            go_wp2
            go_roundg (m - (j + 1))
            case rel => exact ⟨j + 1, rfl, by omega, by go_num, hC4.trans hb5⟩
            case measure => rw [Hgj.out]; omega
          · have HL2 : Hid (lessK f.ks.l g.ks.l = false) := HL.out
            have HM2 : Hid (lessK g.ks.l f.ks.l = false) := HM.out
            clear HL HM
            go_wp2_with (first
              | ((with_reducible show wpList _ _ _ (⟨some 37, _, _, _, _, _⟩ :: _) _ _); refine wpList_load_row_at rfl rowFct (.tmp 36) rfl b' (o' + j * 11) rfl g.cs rfl hrg ?_)
              | ((with_reducible show wpList _ _ _ (⟨_, .store _ (.tmp 8) _, _, _, _, _⟩ :: _) _ _); refine wpList_store_new rfl rowFct (.tmp 8) (.tmp 37) rfl rfl rfl g.cs rfl rfl (fct_one _) ?_)
              | ((with_reducible show wpList _ _ _ (⟨some 38, _, _, _, _, _⟩ :: _) _ _); refine wpList_load_blkG (by first | rfl | go_simp) rowFct (.tmp 6) (by rfl) g6 (by rfl) e6 rfl ?_)
              | ((with_reducible show wpList _ _ _ (⟨some 39, _, _, _, _, _⟩ :: _) _ _); refine wpList_load_blkG (by first | rfl | go_simp) rowFct (.tmp 8) (by rfl) wr.heap.size (by rfl) e8 rfl ?_))
            refine (less_val HL2.out Hf2.out Hgo.out).mono ?_; rintro e w3 ⟨rfl, hb3⟩
            have h6 := e6.bel hb3
            have h8 := e8.bel hb3
            have Hf3 : Hid (f.ok w3) := ⟨Hf2.out.ks.mono hb3, Hf2.out.ag⟩
            have Hg3 : Hid (g.ok w3) := ⟨Hgo.out.ks.mono hb3, Hgo.out.ag⟩
            have hC3 := hCa.trans hb3
            clear hb3 e6 e8 Hf2 Hgo hCa
            go_wp2_with (first
              | ((with_reducible show wpList _ _ _ (⟨some 41, _, _, _, _, _⟩ :: _) _ _); refine wpList_load_blkG (by first | rfl | go_simp) rowFct (.tmp 8) (by rfl) wr.heap.size (by rfl) h8 rfl ?_)
              | ((with_reducible show wpList _ _ _ (⟨some 42, _, _, _, _, _⟩ :: _) _ _); refine wpList_load_blkG (by first | rfl | go_simp) rowFct (.tmp 6) (by rfl) g6 (by rfl) h6 rfl ?_))
            refine (less_val HM2.out Hg3.out Hf3.out).mono ?_; rintro e w4 ⟨rfl, hb4⟩
            have i6 := h6.bel hb4
            have i8 := h8.bel hb4
            have Hf4 : Hid (f.ok w4) := ⟨Hf3.out.ks.mono hb4, Hf3.out.ag⟩
            have Hg4 : Hid (g.ok w4) := ⟨Hg3.out.ks.mono hb4, Hg3.out.ag⟩
            have hC4 := hC3.trans hb4
            clear hb4 h6 h8 Hf3 Hg3 hC3
            go_wp2_with (first
              | ((with_reducible show wpList _ _ _ (⟨some 44, _, _, _, _, _⟩ :: _) _ _); refine wpList_load_blkG (by first | rfl | go_simp) rowFct (.tmp 6) (by rfl) g6 (by rfl) i6 rfl ?_)
              | ((with_reducible show wpList _ _ _ (⟨some 45, _, _, _, _, _⟩ :: _) _ _); refine wpList_load_blkG (by first | rfl | go_simp) rowFct (.tmp 8) (by rfl) wr.heap.size (by rfl) i8 rfl ?_))
            refine (fcompare_val HR.out Hf4.out Hg4.out).mono ?_; rintro e w5 ⟨rfl, hb5⟩
            go_wp2
            go_roundg (m - (j + 1))
            case rel => exact ⟨j + 1, rfl, by omega, by go_num, hC4.trans hb5⟩
            case measure => rw [Hgj.out]; omega
          · have HL2 : Hid (lessK f.ks.l g.ks.l = false) := HL.out
            have HM2 : Hid (lessK g.ks.l f.ks.l = true) := HM.out
            clear HL HM
            go_wp2_with (first
              | ((with_reducible show wpList _ _ _ (⟨some 37, _, _, _, _, _⟩ :: _) _ _); refine wpList_load_row_at rfl rowFct (.tmp 36) rfl b' (o' + j * 11) rfl g.cs rfl hrg ?_)
              | ((with_reducible show wpList _ _ _ (⟨_, .store _ (.tmp 8) _, _, _, _, _⟩ :: _) _ _); refine wpList_store_new rfl rowFct (.tmp 8) (.tmp 37) rfl rfl rfl g.cs rfl rfl (fct_one _) ?_)
              | ((with_reducible show wpList _ _ _ (⟨some 38, _, _, _, _, _⟩ :: _) _ _); refine wpList_load_blkG (by first | rfl | go_simp) rowFct (.tmp 6) (by rfl) g6 (by rfl) e6 rfl ?_)
              | ((with_reducible show wpList _ _ _ (⟨some 39, _, _, _, _, _⟩ :: _) _ _); refine wpList_load_blkG (by first | rfl | go_simp) rowFct (.tmp 8) (by rfl) wr.heap.size (by rfl) e8 rfl ?_))
            refine (less_val HL2.out Hf2.out Hgo.out).mono ?_; rintro e w3 ⟨rfl, hb3⟩
            have h6 := e6.bel hb3
            have h8 := e8.bel hb3
            have Hf3 : Hid (f.ok w3) := ⟨Hf2.out.ks.mono hb3, Hf2.out.ag⟩
            have Hg3 : Hid (g.ok w3) := ⟨Hgo.out.ks.mono hb3, Hgo.out.ag⟩
            have hC3 := hCa.trans hb3
            clear hb3 e6 e8 Hf2 Hgo hCa
            go_wp2_with (first
              | ((with_reducible show wpList _ _ _ (⟨some 41, _, _, _, _, _⟩ :: _) _ _); refine wpList_load_blkG (by first | rfl | go_simp) rowFct (.tmp 8) (by rfl) wr.heap.size (by rfl) h8 rfl ?_)
              | ((with_reducible show wpList _ _ _ (⟨some 42, _, _, _, _, _⟩ :: _) _ _); refine wpList_load_blkG (by first | rfl | go_simp) rowFct (.tmp 6) (by rfl) g6 (by rfl) h6 rfl ?_))
            refine (less_val HM2.out Hg3.out Hf3.out).mono ?_; rintro e w4 ⟨rfl, hb4⟩
            have i6 := h6.bel hb4
            have i8 := h8.bel hb4
            have Hf4 : Hid (f.ok w4) := ⟨Hf3.out.ks.mono hb4, Hf3.out.ag⟩
            have Hg4 : Hid (g.ok w4) := ⟨Hg3.out.ks.mono hb4, Hg3.out.ag⟩
            have hC4 := hC3.trans hb4
            clear hb4 h6 h8 Hf3 Hg3 hC3
            go_wp2_with (first
              | ((with_reducible show wpList _ _ _ (⟨some 44, _, _, _, _, _⟩ :: _) _ _); refine wpList_load_blkG (by first | rfl | go_simp) rowFct (.tmp 6) (by rfl) g6 (by rfl) i6 rfl ?_)
              | ((with_reducible show wpList _ _ _ (⟨some 45, _, _, _, _, _⟩ :: _) _ _); refine wpList_load_blkG (by first | rfl | go_simp) rowFct (.tmp 8) (by rfl) wr.heap.size (by rfl) i8 rfl ?_))
            refine (fcompare_val HR.out Hf4.out Hg4.out).mono ?_; rintro e w5 ⟨rfl, hb5⟩
            go_wp2
            go_roundg (m - (j + 1))
            case rel => exact ⟨j + 1, rfl, by omega, by go_num, hC4.trans hb5⟩
            case measure => rw [Hgj.out]; omega
        · go_wp2
          go_roundg (n - (k + 1))
          case rel => exact ⟨k + 1, rfl, by omega, by go_num, hBa.trans hC⟩
          case measure => rw [Hgk.out]; omega
    · obtain rfl : k = n := by omega
      clear hlt hk Hgk
      obtain ⟨W0, rfl⟩ : ∃ W0 : World, W0 = wr := ⟨_, rfl⟩
      go_wp2
      go_loopg [10, 53] k (fun gg s10 i wx => ∃ j : Nat, gg = k - j ∧ j ≤ k ∧ i = .int .i64 j ∧ Bel W0 wx ∧ wx.ownsRow W0.heap.size 35 10 s10 j (agsCells (agsF (l.take j))))
      case atStart => exact ⟨0, rfl, by omega, rfl, Bel.refl _, ⟨by simp [agsF, agsCells], .inl ⟨rfl, rfl⟩⟩⟩
      case round =>
        obtain ⟨j, hgj, hj, rfl, hC, hown⟩ := hrel
        have Hgj := Lib.hid hgj
        clear hgj
        by_cases hlt : j < k
        · obtain ⟨b, o, f, rfl, hb, hf, hfo, _, hrf, _⟩ := ((Hx.out.mono hB).mono hC).fct hlt
          have HS := Lib.hid (agsF_snoc hf)
          have a7 := (Blk.new wr 79 f.cs).fag
          clear hf hfo
          go_wp2_with (first
            | ((with_reducible show wpList _ _ _ (⟨some 56, _, _, _, _, _⟩ :: _) _ _); refine wpList_load_row_at rfl rowFct (.tmp 55) rfl b (o + j * 11) rfl f.cs rfl hrf ?_)
            | ((with_reducible show wpList _ _ _ (⟨_, .store _ (.tmp 12) _, _, _, _, _⟩ :: _) _ _); refine wpList_store_new rfl rowFct (.tmp 12) (.tmp 56) rfl rfl rfl f.cs rfl rfl (fct_one _) ?_)
            | ((with_reducible show wpList _ _ _ (⟨some 59, _, _, _, _, _⟩ :: _) _ _); refine wpList_load_row_at rfl rowAg (.tmp 58) rfl wr.heap.size (1) rfl f.ag.cs rfl a7 ?_)
            | ((with_reducible show wpList _ _ _ (⟨some 60, _, _, _, _, _⟩ :: _) _ _); refine wpList_buildSlice1 rfl E_agF (.tmp 59) rfl f.ag.cs rfl rfl (by omega) ?_)
            | ((with_reducible show wpList _ _ _ (⟨some 61, _, _, _, _, _⟩ :: _) _ _); refine wpList_append1 rfl (.tmp 57) (.tmp 60) _ rfl E_agF W0 ((hC.alloc _).alloc _) u10 j _ rfl ((hown.alloc _).alloc _) _ 1 1 f.ag.cs.toList rfl (rd_new _ _ _ 1 10 rfl) (fun u hu => (Array.all_eq_true_iff_forall_mem.1 (ag_one f.ag)) u (by simpa using hu)) (by unfold maxLen; omega) (by omega) ?_; intro v3 w3 hown2 hB2 hg2 hat2))
          have hown3 : w3.ownsRow W0.heap.size 35 10 v3 (j + 1) (agsCells (agsF (l.take (j + 1)))) := by rw [HS.out, agsC_snoc]; exact hown2
          have Hown3 := Lib.hid hown3
          clear hown3 hown2 hg2 hat2 a7
          go_roundg (k - (j + 1))
          case rel => exact ⟨j + 1, rfl, by omega, by go_num, hB2, Hown3.out⟩
          case measure => rw [Hgj.out]; omega
        · obtain rfl : j = k := by omega
          have Hl : Hid (l.take j = l) := by show _ = _; rw [List.take_of_length_le (by have h1 : l.length = j := hlen.out; omega)]
          rw [Hl.out] at hown
          obtain ⟨A10, c10, rfl, _⟩ := own_slice hown
          have hr10 := Rd.of_own hown
          have hB0 := hB.trans hC
          have HokA : Hid (∀ a ∈ agsF l, a.ok) := fun a ha => by
            obtain ⟨f, hf, rfl⟩ := List.mem_map.1 ha
            exact (Hx.out.all f hf).ag
          clear hown hC Hgj hlt hj
          obtain ⟨⟨z, so⟩, Hz⟩ : ∃ x, Hid (Ag.all .zero (agsF l) = x) := ⟨_, rfl⟩
          go_wp2_with fail
          refine (fall_any ⟨A, j, c, l⟩ _ (Hx.out.mono hB0) (by simp only; omega)).mono ?_; rintro e W1 ⟨rfl, h1⟩
          simp only [Hz.out]
          go_wp2_with ((with_reducible show wpList _ _ _ (⟨_, .store _ (.tmp 13) _, _, _, _, _⟩ :: _) _ _); refine wpList_store_new rfl rowAg (.tmp 13) (.tmp 66) rfl rfl rfl z.cs rfl rfl (ag_one _) ?_)
          have b13 : Blk (W1.alloc (.cells z.cs 35)) W1.heap.size 35 z.cs := Blk.new W1 _ _
          have k1 := h1.alloc (.cells z.cs 35)
          clear h1
          refine (rall_any rjoin_any A10 j c10 (agsF l) _ (hr10.bel k1) HokA.out (by omega)).mono ?_; rintro e W2 ⟨rfl, h2⟩
          rw [Hz.out]
          go_wp2_with ((with_reducible show wpList _ _ _ (⟨_, .store _ (.tmp 15) _, _, _, _, _⟩ :: _) _ _); refine wpList_store_new rfl rowAg (.tmp 15) (.tmp 71) rfl rfl rfl z.cs rfl rfl (ag_one _) ?_)
          have b15 : Blk (W2.alloc (.cells z.cs 35)) W2.heap.size 35 z.cs := Blk.new W2 _ _
          have k2 := h2.alloc (.cells z.cs 35)
          replace b13 := b13.bel k2
          have hB2 := (hB0.trans k1).trans k2
          clear h2 k1 k2 hr10
          refine (psame_any ⟨A, j, c, l⟩ ⟨B, m, d, q⟩ _ (Hx.out.mono hB2) (Hy.out.mono hB2) (by simp only; omega) (by simp only; omega)).mono ?_; rintro e W3 ⟨rfl, h3⟩
          go_wp2_with fail
          refine (same_any ⟨A, j, c, l⟩ ⟨B, m, d, q⟩ _ (Hx.out.mono (hB2.trans h3)) (Hy.out.mono (hB2.trans h3)) (by simp only; omega) (by simp only; omega)).mono ?_; rintro e W4 ⟨rfl, h4⟩
          have hB4 := (hB2.trans h3).trans h4
          replace b13 := (b13.bel h3).bel h4
          replace b15 := (b15.bel h3).bel h4
          clear h3 h4 hB2
          have qe : ∀ t : Bool, (t == t) = true := fun t => by cases t <;> rfl
          go_wp2_with fail
          refine (clone_any ⟨A, j, c, l⟩ _ (Hx.out.mono hB4) (by simp only; omega)).mono ?_
          rintro e W5 ⟨v, fs, rfl, hGa, hcons⟩
          have Hcons := Lib.hid hcons
          have hfl : fs.length ≤ 1000 := by
            have h1 := congrArg List.length hcons
            rw [cons_len, cons_len] at h1
            have h2 : l.length = j := hlen.out
            simp only at h1
            omega
          obtain ⟨xr, rfl, hxr, hxl, hxn⟩ := hGa.row hfl
          have hB5 := hB4.trans hGa.bel
          replace b13 := b13.bel hGa.bel
          replace b15 := b15.bel hGa.bel
          have hxn2 : xr.n ≤ 1000 := by rw [hxn]; exact hfl
          have Hxr := Lib.hid hxr
          have HS : Hid (sameF xr.l l = true) := by show _ = _; unfold sameF; rw [hxl]; simp only [decide_eq_true_eq]; exact Hcons.out
          clear hcons hGa hxr hxl hxn hB4 hfl Hcons
          go_wp2_with fail
          refine (same_any xr ⟨A, j, c, l⟩ _ Hxr.out (Hx.out.mono hB5) (by omega) (by simp only; omega)).mono ?_; rintro e W6 ⟨rfl, h6⟩
          simp only [HS.out]
          have b13' := b13.bel h6
          have b15' := b15.bel h6
          go_wp2_with (first
            | ((with_reducible show wpList _ _ _ (⟨some 87, _, _, _, _, _⟩ :: _) _ _); refine wpList_load_blkG (by first | rfl | go_simp) rowAg (.tmp 13) (by rfl) W1.heap.size (by rfl) b13' rfl ?_)
            | ((with_reducible show wpList _ _ _ (⟨some 88, _, _, _, _, _⟩ :: _) _ _); refine wpList_load_blkG (by first | rfl | go_simp) rowAg (.tmp 15) (by rfl) W2.heap.size (by rfl) b15' rfl ?_)
            | ((with_reducible show wpList _ _ _ (⟨some 89, _, _, _, _, _⟩ :: _) _ _); refine wpList_cmp_row (by first | rfl | go_simp) .eql 35 35 (.tmp 87) (.tmp 88) (by rfl) (by rfl) (by rfl) guard_ag (eql_ag z _) ?_))
          refine (awake19_any _).mono ?_; rintro e W7 ⟨rfl, h7⟩
          go_wp2
          go_ret
          exact ⟨rfl, (hB5.trans h6).trans h7⟩

end Go.Proofs.Ytbociponcacmpaa
