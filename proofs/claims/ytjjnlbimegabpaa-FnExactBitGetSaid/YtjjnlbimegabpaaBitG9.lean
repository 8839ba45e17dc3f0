/- Walks of the reference's BitGet and of the law FnExactBitGet. Conditions: those of each theorem. -/
import Derived.Test.YtjjnlbimegabpaaBitG8
set_option linter.unusedVariables false
namespace Go.Proofs.Ytjjnlbimegabpaa.Fn
open Go.RowKit Go.Proofs.Ytjjnlbimegabpaa.Lib Go.Proofs.Ytjjnlbimegabpaa.Plan

theorem l02Get (row : List Nat) (g off cap : Nat) (signed little : Bool) (w : World) (hn : row.length ≤ 49) (hb : ∀ b ∈ row, b ≤ 1) (hr : RowAt w g off (row.map Int.ofNat)) (hcap : row.length ≤ cap) :
    Calls Try.prog 59 #[.slice (some ⟨g, off, none⟩) row.length cap, .bool signed, .bool little] w fun e w' => e = .returned (.int .i64 (signI (fieldN row little) row.length signed)) ∧ w = w' := by
  cases little
  · exact l02Get_big row g off cap signed w hn hb hr
  · exact l02Get_little row g off cap signed w hn hb hr hcap
theorem packS_size (row : List Int) : (packS row).size = (row.length + 7) / 8 := by rw [packS, strOfNums_size, packN_length]
set_option maxRecDepth 100000 in
theorem sBitGet_ok (n : Int) (s : ByteArray) (start size : Nat) (signed little : Bool) (w : World) (h : GetOK n s start size) :
    Calls Try.prog 35 #[.agg #[.int .i64 n, .string s], .int .i64 start, .int .i64 size, .bool signed, .bool little] w fun e w' => e = .returned (.tuple #[.int .i64 (signI (fieldN (fieldR s start size) little) size signed), .int .i64 0]) ∧ Below w.heap.size w w' := by
  have K0 := Aside.mk (Blk.newAt w 27 [.int .i64 n, .string s] rfl)
  have C0 := Aside.mk ((Below.refl w.heap.size w).alloc (Nat.le_refl _) (.cells #[.int .i64 n, .string s] 27))
  obtain ⟨hb, h1, h2, h3, h4, h5⟩ := h
  have HCUT := Aside.mk (show CutOK n s start size from ⟨hb, h1, h3, h4, h5⟩)
  have hs49 : size ≤ 49 := by omega
  clear hb h3 h4 h5
  go_enter Try.func35, Try.ntmps35
  go_wp2_with fail
  refine (sBitsCut_ok n s start size _ HCUT.out).mono ?_
  rintro e w1 ⟨rfl, hb1⟩
  have C1 := Aside.mk (below_later C0.out hb1)
  clear hb1 K0 C0
  have K1 := Aside.mk (Blk.newAt w1 27 [.int .i64 size, .string (packS (cutI s start size))] rfl)
  have C2 := Aside.mk (C1.out.alloc C1.out.size (.cells #[.int .i64 size, .string (packS (cutI s start size))] 27))
  go_wp2_with fail
  refine (l02Row size (packS (cutI s start size)) _ (by omega) (by rw [packS_size, cutI_length]; omega)).mono ?_
  rintro e w2 ⟨g, cap, rfl, hr, hcap, hb2⟩
  have hrow := rowI_packS (cutI s start size) (cutI_bit01 s start size)
  rw [cutI_length] at hrow
  rw [hrow, ← cutI_field] at hr
  have HR := Aside.mk hr
  have C3 := Aside.mk (below_later C2.out hb2)
  clear hb2 hr hrow K1 C2 C1
  go_wp2_with fail
  have hcall := l02Get (fieldR s start size) g 0 cap signed little w2 (by rw [fieldR_length]; exact hs49) (fieldR_le s start size) HR.out (by rw [fieldR_length]; exact hcap)
  rw [fieldR_length] at hcall
  refine hcall.mono ?_
  clear hcall
  rintro e w' ⟨rfl, rfl⟩
  go_wp2_with fail
  go_ret2
  exact ⟨rfl, C3.out⟩
set_option maxRecDepth 100000 in
theorem sBitGet_bad (n : Int) (s : ByteArray) (start size : Int) (signed little : Bool) (w : World) (h : ¬ GetOK n s start size) (hz : s.size ≤ 140737488355328) :
    Calls Try.prog 35 #[.agg #[.int .i64 n, .string s], .int .i64 start, .int .i64 size, .bool signed, .bool little] w fun e w' => e = .returned (.tuple #[.int .i64 0, .int .i64 1]) ∧ Below w.heap.size w w' := by
  have C0 := Aside.mk ((Below.refl w.heap.size w).alloc (Nat.le_refl _) (.cells #[.int .i64 n, .string s] 27))
  by_cases h49 : 49 < size
  · have H := Aside.mk h
    clear h
    go_enter Try.func35, Try.ntmps35
    go_wp2_with fail
    go_ret2
    exact ⟨rfl, C0.out⟩
  · have hcut : ¬ CutOK n s start size := fun hc => h ⟨hc.1, hc.2.1, by omega, hc.2.2.1, hc.2.2.2.1, hc.2.2.2.2⟩
    have H := Aside.mk hcut
    clear h hcut
    go_enter Try.func35, Try.ntmps35
    go_wp2_with fail
    refine (sBitsCut_bad n s start size _ H.out hz).mono ?_
    rintro e w1 ⟨rfl, hb1⟩
    have C1 := Aside.mk (below_later C0.out hb1)
    have C2 := Aside.mk (C1.out.alloc C1.out.size (.cells #[.int .i64 0, .string ⟨#[]⟩] 27))
    clear hb1 C1
    go_wp2_with fail
    go_ret2
    exact ⟨rfl, C2.out⟩
end Go.Proofs.Ytjjnlbimegabpaa.Fn
