/- Walk of (*bitRow).add: one bit more. Conditions: those of the theorem. -/
import Derived.Test.YtjjnlbimegabpaaBitP2
import Derived.StillTailTactics
set_option linter.unusedVariables false
namespace Go.Proofs.Ytjjnlbimegabpaa.Fn
open Go.RowKit Go.Proofs.Ytjjnlbimegabpaa.Lib Go.Proofs.Ytjjnlbimegabpaa.Plan

theorem pow_half (r : Nat) (h : r < 8) : (128 : Int) / 2 ^ r = 2 ^ (7 - r) := by
  have : r = 0 ∨ r = 1 ∨ r = 2 ∨ r = 3 ∨ r = 4 ∨ r = 5 ∨ r = 6 ∨ r = 7 := by omega
  rcases this with rfl | rfl | rfl | rfl | rfl | rfl | rfl | rfl <;> decide
set_option maxRecDepth 100000 in
set_option maxHeartbeats 2000000 in
theorem add (W1 w : World) (B g : Nat) (row : List Int) (k : Nat) (v : Value) (b : Bool) (hrow : Bit01 row) (hk : k ≤ 32000) (hb : row.getD k 0 = if b then 1 else 0) (h : Adds W1 w B g row ((k + 7) / 8) k k v) :
    Calls Try.prog 70 #[.pointer (some ⟨g, 0, none⟩), .bool b] w fun e w' => e = .returned (.tuple #[]) ∧ ∃ v', Adds W1 w' B g row ((k + 1 + 7) / 8) (k + 1) (k + 1) v' := by
  obtain ⟨i0, hi, hz0, hz1, hz2⟩ := info_parts infoU8b
  have HI := Aside.mk hi
  have H := Aside.mk h
  have HO := Aside.mk (topB_or hrow)
  have HB := Aside.mk hb
  clear hi h hrow hb
  have c0 := H.out.blk.cell 0
  have c1 := H.out.blk.cell 1
  have f0 := H.out.blk.free 0
  have f1 := H.out.blk.free 1
  have e2 : (k : Int).tmod 8 = (k : Int) % 8 := Int.tmod_eq_emod_of_nonneg (by omega)
  by_cases h8 : k % 8 = 0
  · have H8 := Aside.mk h8
    have e3 : (k : Int) % 8 = 0 := by omega
    have hbase := H.out.base
    clear h8
    go_enter Try.func70, Try.ntmps70
    go_wp2_with (at_builtin; refine wpList_append_own _ rfl _ _ 70 rfl (B) 5 i0 (.int .u8 0) 1 1 Try.underlying70 HI.out hz0 hz1 hz2 rfl (by decide) _ _ _ rfl ((H.out.owns).alloc _) ⟨w.heap.size, 0, none⟩ 1 1 [.int .u8 (0)] rfl rfl (one_at w.heap.size _ w 5 rfl) ?c2 ?c3 ?c4 ?c5 ?_)
    case c2 => intro u hu; simp at hu; subst hu; rfl
    case c3 => unfold maxLen; omega
    case c4 => omega
    case c5 => rw [Blk.alloc_size]; omega
    intro v' w1 hown' hgrow hnn
    have hgl : some g ≠ v.ownBlock := fun e => by have := (H.out.owns.lt g e.symm).1; have := H.out.lt; omega
    have K1 := (H.out.blk.alloc (.cells #[.int .u8 0] 5)).grown hgrow hgl
    have d0 := K1.cell 0
    have d1 := K1.cell 1
    have df0 := K1.free 0
    have df1 := K1.free 1
    have R := H.out.grow H8.out _ hown' hgrow
    clear hown' hgrow hgl K1 c0 c1 f0 f1 H
    obtain ⟨g2, cap2, rfl⟩ := R.form
    have R := Aside.mk R
    cases b
    · have R2 := R.out.count (k + 1)
      have hz : row.getD k 0 = 0 := HB.out
      rw [Int.natCast_add, Int.natCast_one] at R2
      have R3 := Aside.mk R2
      have HZ := Aside.mk hz
      clear R2 hz
      go_wp2_with fail
      go_end0
      refine ⟨rfl, .slice (some ⟨g2, 0, none⟩) (k / 8 + 1) cap2, ?_⟩
      have R4 := R3.out
      rw [show k + 1 + 7 = (k / 8 + 1) * 8 by have := H8.out; omega, Nat.mul_div_cancel _ (by omega)]
      exact ⟨R4.blk, by rw [← packM_same row k HZ.out]; exact R4.owns, R4.base, R4.lt, R4.os, R4.tape, R4.output, R4.same⟩
    · have e1 : IntKind.i64.wrap ((k : Int) / 8) = (k : Int) / 8 := by rw [IntKind.wrap_i64]; omega
      have e5 : ((k : Int) / 8).toNat = k / 8 := by omega
      have e7 : (0 : Int) ≤ (k : Int) / 8 := by omega
      obtain ⟨m, hm⟩ : ∃ m, m = k / 8 + 1 := ⟨_, rfl⟩
      have e8 : (k : Int) / 8 < m := by omega
      have e9 : k / 8 < m := by omega
      have HM := Aside.mk hm
      clear hm
      have hz : row.getD k 0 = 1 := HB.out
      have ho := HO.out (k / 8) 0 (by omega)
      rw [show 8 * (k / 8) + 0 = k by have := H8.out; omega, hz] at ho
      have HH := Aside.mk ho
      clear ho hz
      go_wp2_with fail
      have R2 := R.out
      clear R d0 d1 df0 df1
      generalize World.setCell w1 _ _ = w2 at R2 ⊢
      have c0 := R2.blk.cell 0
      have c1 := R2.blk.cell 1
      have hc := R2.owns.cellAt (k / 8) (by omega)
      rw [cu8, List.getElem?_map, packM_at, H8.out] at hc
      have hf := R2.owns.frozenAt (k / 8)
      have R3 := Aside.mk R2
      clear R2
      rw [← HM.out]
      rw [← HM.out] at c1
      go_still_tail 18, (by kernel_rfl)
      change wpList _ _ _ _ _ w2.drew
      have R4 := R3.out.drew
      clear R3 c0 c1 hc hf
      generalize w2.drew = w3 at R4 ⊢
      have hb2 := (R4.owns.lt g2 rfl).1
      have n1 : g2 ≠ g := by have := R4.lt; omega
      have n2 : g ≠ g2 := fun e => n1 e.symm
      have c0 := R4.blk.cell 0
      have f0 := R4.blk.free 0
      have hc := R4.owns.cellAt (k / 8) (by omega)
      rw [cu8, List.getElem?_map, packM_at, H8.out] at hc
      have hf := R4.owns.frozenAt (k / 8)
      have R5 := R4.store.count (k + 1)
      rw [H8.out, Int.natCast_add, Int.natCast_one] at R5
      have R6 := Aside.mk R5
      have ho2 : bits .or .u8 (topB row (k / 8) 0) 128 = topB row (k / 8) (0 + 1) := by simpa using HH.out
      clear R4 R5 hb2
      go_wp2_with fail
      go_end0
      refine ⟨rfl, .slice (some ⟨g2, 0, none⟩) (k / 8 + 1) cap2, ?_⟩
      rw [show k + 1 + 7 = (k / 8 + 1) * 8 by have := H8.out; omega, Nat.mul_div_cancel _ (by omega)]
      exact R6.out
  · have H8 := Aside.mk h8
    have e3 : ((k : Int) % 8 == 0) = false := by simp; omega
    have e6 : ((k : Int) % 8).toNat = k % 8 := by omega
    have R := H.out
    rw [show (k + 7) / 8 = k / 8 + 1 by omega] at R
    obtain ⟨g2, cap2, rfl⟩ := R.form
    cases b
    · have R2 := R.count (k + 1)
      have hz : row.getD k 0 = 0 := HB.out
      rw [Int.natCast_add, Int.natCast_one] at R2
      have R3 := Aside.mk R2
      have HZ := Aside.mk hz
      clear R2 hz h8 R
      go_enter Try.func70, Try.ntmps70
      go_wp2_with fail
      go_end0
      refine ⟨rfl, .slice (some ⟨g2, 0, none⟩) (k / 8 + 1) cap2, ?_⟩
      have R4 := R3.out
      rw [show (k + 1 + 7) / 8 = k / 8 + 1 by have := H8.out; omega]
      exact ⟨R4.blk, by rw [← packM_same row k HZ.out]; exact R4.owns, R4.base, R4.lt, R4.os, R4.tape, R4.output, R4.same⟩
    · have e1 : IntKind.i64.wrap ((k : Int) / 8) = (k : Int) / 8 := by rw [IntKind.wrap_i64]; omega
      have e5 : ((k : Int) / 8).toNat = k / 8 := by omega
      have e7 : (0 : Int) ≤ (k : Int) / 8 := by omega
      obtain ⟨m, hm⟩ : ∃ m, m = k / 8 + 1 := ⟨_, rfl⟩
      have e8 : (k : Int) / 8 < m := by omega
      have e9 : k / 8 < m := by omega
      have HM := Aside.mk hm
      have hz : row.getD k 0 = 1 := HB.out
      have ho := HO.out (k / 8) (k % 8) (by omega)
      rw [show 8 * (k / 8) + k % 8 = k by omega, hz, Int.one_mul, ← pow_half (k % 8) (by omega)] at ho
      have HH := Aside.mk ho
      have hc := R.owns.cellAt (k / 8) (by omega)
      rw [cu8, List.getElem?_map, packM_at] at hc
      have hf := R.owns.frozenAt (k / 8)
      have R3 := Aside.mk R
      clear ho hz hm h8 R H
      rw [← HM.out] at c1
      go_enter Try.func70, Try.ntmps70
      go_wp2_with fail
      go_still_tail 18, (by kernel_rfl)
      change wpList _ _ _ _ _ w.drew
      have R4 := R3.out.drew
      clear R3 c0 c1 hc hf f0 f1
      generalize w.drew = w3 at R4 ⊢
      have hb2 := (R4.owns.lt g2 rfl).1
      have n1 : g2 ≠ g := by have := R4.lt; omega
      have n2 : g ≠ g2 := fun e => n1 e.symm
      have c0 := R4.blk.cell 0
      have f0 := R4.blk.free 0
      have hc := R4.owns.cellAt (k / 8) (by omega)
      rw [cu8, List.getElem?_map, packM_at] at hc
      have hf := R4.owns.frozenAt (k / 8)
      have R5 := R4.store.count (k + 1)
      rw [Int.natCast_add, Int.natCast_one] at R5
      have R6 := Aside.mk R5
      have ho2 := HH.out
      clear R4 R5 hb2
      go_wp2_with fail
      go_end0
      refine ⟨rfl, .slice (some ⟨g2, 0, none⟩) (k / 8 + 1) cap2, ?_⟩
      rw [show (k + 1 + 7) / 8 = k / 8 + 1 by have := H8.out; omega]
      exact R6.out
end Go.Proofs.Ytjjnlbimegabpaa.Fn
