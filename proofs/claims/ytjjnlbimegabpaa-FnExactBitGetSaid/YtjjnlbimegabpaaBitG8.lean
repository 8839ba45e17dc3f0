/- Walks of the reference's BitsCut (a cut that is one) and BitGet. Conditions: those of each theorem. -/
import Derived.Test.YtjjnlbimegabpaaBitG7
set_option linter.unusedVariables false
namespace Go.Proofs.Ytjjnlbimegabpaa.Fn
open Go.RowKit Go.Proofs.Ytjjnlbimegabpaa.Lib Go.Proofs.Ytjjnlbimegabpaa.Plan

def cutI (s : ByteArray) (start size : Nat) : List Int := (List.range size).map (fun k => bitI s (start + k))
theorem cutI_length (s : ByteArray) (start size : Nat) : (cutI s start size).length = size := by simp [cutI]
theorem cutI_bit01 (s : ByteArray) (start size : Nat) : Bit01 (cutI s start size) := by
  intro i
  by_cases h : i < size
  · have : (cutI s start size).getD i 0 = bitI s (start + i) := by simp [cutI, h]
    rw [this]
    have := bitI_range s (start + i)
    omega
  · left
    rw [List.getD_eq_getElem?_getD, List.getElem?_eq_none (by rw [cutI_length]; omega)]
    rfl
theorem cutI_field (s : ByteArray) (start size : Nat) : (fieldR s start size).map Int.ofNat = cutI s start size := by
  unfold fieldR cutI
  rw [List.map_map]
  refine List.map_congr_left fun k _ => ?_
  have := bitI_range s (start + k)
  show ((bitI s (start + k)).toNat : Int) = _
  omega
theorem RowAt.cut {w : World} {g n : Nat} {s : ByteArray} (h : RowAt w g 0 (rowI s n)) (start size : Nat) (hin : start + size ≤ n) : RowAt w g start (cutI s start size) := by
  refine ⟨h.1, fun j hj => ?_⟩
  rw [cutI_length] at hj
  have := h.2 (start + j) (by rw [rowI_length]; omega)
  rw [Nat.zero_add] at this
  rw [this]
  congr 2
  simp [rowI, cutI, hj, show start + j < n by omega]
set_option maxRecDepth 100000 in
theorem sBitsCut_ok (n : Int) (s : ByteArray) (start size : Nat) (w : World) (h : CutOK n s start size) :
    Calls Try.prog 58 #[.agg #[.int .i64 n, .string s], .int .i64 start, .int .i64 size] w fun e w' => e = .returned (.tuple #[.agg #[.int .i64 size, .string (packS (cutI s start size))], .int .i64 0]) ∧ Below w.heap.size w w' := by
  have K0 := Aside.mk ((Blk.newAt w 27 [.int .i64 n, .string s] rfl).alloc (.cells #[.int .i64 0, .string ⟨#[]⟩] 27))
  have KR := Aside.mk (Blk.newAt (w.alloc (.cells #[.int .i64 n, .string s] 27)) 27 [.int .i64 0, .string ⟨#[]⟩] (g := w.heap.size + 1) (by simp))
  have C0 := Aside.mk (((Below.refl w.heap.size w).alloc (Nat.le_refl _) (.cells #[.int .i64 n, .string s] 27)).alloc (by simp) (.cells #[.int .i64 0, .string ⟨#[]⟩] 27))
  obtain ⟨hb, h1, h3, h4, h5⟩ := h
  obtain ⟨f1, f2, f3⟩ := okB_fit hb
  have HB := Aside.mk hb
  obtain ⟨m, rfl⟩ := Int.eq_ofNat_of_zero_le f1
  have HF := Aside.mk f3
  have hz : s.size ≤ 5000 := by omega
  clear hb f3
  go_enter Try.func58, Try.ntmps58
  go_wp2_with fail
  refine (sBitsOK _ s _ (by omega)).mono ?_
  rintro e w1 ⟨rfl, hb1⟩
  rw [HB.out]
  have K1 := Aside.mk (K0.out.below hb1)
  have KR1 := Aside.mk (KR.out.below hb1)
  have c0 := K1.out.cell 0
  have C1 := Aside.mk (below_later C0.out hb1)
  clear hb1 K0 C0 KR
  go_wp2_with (first | (refine wpList_load_blk rfl 27 _ rfl w.heap.size [.int .i64 m, .string s] rfl 27 _ K1.out Try.underlying27 rfl (by kernel_rfl) ?_) | fail)
  refine (l02Row m s _ (by omega) (by have := HF.out; omega)).mono ?_
  rintro e w2 ⟨g, cap, rfl, hr, hcap, hb2⟩
  have KR2 := Aside.mk (KR1.out.below hb2)
  have C2 := Aside.mk (below_later C1.out hb2)
  have HR := Aside.mk (hr.cut start size (by omega))
  clear hb2 hr K1 KR1 C1 c0
  by_cases hlt : start < cap
  · have n0 : ¬ (cap = start) := by omega
    go_wp2_with fail
    have hcall := l02Bits (cutI s start size) g start (cap - start) w2 (by rw [cutI_length]; omega) (cutI_bit01 s start size) HR.out
    rw [cutI_length] at hcall
    refine hcall.mono ?_
    clear hcall
    rintro e w3 ⟨rfl, hb3⟩
    have KR3 := Aside.mk (KR2.out.below hb3)
    have C3 := Aside.mk (below_later C2.out hb3)
    clear hb3 KR2 C2
    go_wp2_with (refine wpList_store_blk rfl 27 _ _ rfl (w.heap.size + 1) [.int .i64 size, .string (packS (cutI s start size))] rfl rfl 27 _ KR3.out (by kernel_rfl) rfl rfl ?_; intro w4 k4 hg4; have K4 := Aside.mk k4; have C4 := Aside.mk (below_grown C3.out hg4 (by omega)); clear k4 hg4)
    refine bodyPost_ret (res_ct rfl _ _ (w.heap.size + 1) 27 [.int .i64 size, .string (packS (cutI s start size))] _ rfl K4.out Try.underlying27 rfl (by kernel_rfl)) rfl ⟨rfl, C4.out⟩
  · obtain rfl : cap = start := by omega
    obtain rfl : size = 0 := by omega
    have HR0 : RowAt w2 g 0 (cutI s cap 0) := ⟨HR.out.1, fun j hj => by simp [cutI] at hj⟩
    have HR1 := Aside.mk HR0
    clear HR0 hlt
    go_wp2_with fail
    have hcall := l02Bits (cutI s cap 0) g 0 0 w2 (by rw [cutI_length]; omega) (cutI_bit01 s cap 0) HR1.out
    rw [cutI_length] at hcall
    refine hcall.mono ?_
    clear hcall
    rintro e w3 ⟨rfl, hb3⟩
    have KR3 := Aside.mk (KR2.out.below hb3)
    have C3 := Aside.mk (below_later C2.out hb3)
    clear hb3 KR2 C2
    go_wp2_with (refine wpList_store_blk rfl 27 _ _ rfl (w.heap.size + 1) [.int .i64 0, .string (packS (cutI s cap 0))] rfl rfl 27 _ KR3.out (by kernel_rfl) rfl rfl ?_; intro w4 k4 hg4; have K4 := Aside.mk k4; have C4 := Aside.mk (below_grown C3.out hg4 (by omega)); clear k4 hg4)
    refine bodyPost_ret (res_ct rfl _ _ (w.heap.size + 1) 27 [.int .i64 0, .string (packS (cutI s cap 0))] _ rfl K4.out Try.underlying27 rfl (by kernel_rfl)) rfl ⟨rfl, C4.out⟩
end Go.Proofs.Ytjjnlbimegabpaa.Fn
