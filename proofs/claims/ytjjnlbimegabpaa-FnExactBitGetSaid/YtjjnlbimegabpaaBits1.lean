/- Walk of l02Bits: a row of bits becomes a text. Conditions: those of the theorem. -/
import Derived.Test.YtjjnlbimegabpaaBits0
import Derived.StillTailTactics
set_option linter.unusedVariables false
namespace Go.Proofs.Ytjjnlbimegabpaa.Fn
open Go.RowKit Go.Proofs.Ytjjnlbimegabpaa.Lib Go.Proofs.Ytjjnlbimegabpaa.Plan

def PackTo (w wr : World) (row : List Int) (m k : Nat) : Prop :=
  wr.ownsRow (w.heap.size + 1) 5 1 (.slice (some ⟨w.heap.size + 1, 0, none⟩) m m) m (cu8 (packN row k)) ∧ (∃ cs, cs.length = 2 ∧ Blk wr w.heap.size 27 cs) ∧ Below w.heap.size w wr
theorem PackTo.start {w w1 : World} {row : List Int} {m : Nat} (hm : m = (row.length + 7) / 8) {o : Array Value} (ho : o.toList.length = 2) (hown : w1.ownsRow (w.heap.size + 1) 5 1 (.slice (some ⟨w.heap.size + 1, 0, none⟩) m m) m (madeCells #[Value.int .u8 0] m).toList)
    (hg : (w.alloc (.cells o 27)).grownBy w1 none) : PackTo w w1 row m 0 := by
  have h := (made_u8 (v := .slice (some ⟨w.heap.size + 1, 0, none⟩) m m) (by simpa [Value.cells] using hown)).out
  subst hm
  rw [← packN_zero] at h
  refine ⟨h, ⟨o.toList, ho, ?_⟩, ?_⟩
  · exact (Blk.new w _ o.toList).grown hg (by simp)
  · exact ((Below.refl _ _).alloc (Nat.le_refl _) _).grown hg (by simp) (by intro k hk; cases hk)
theorem PackTo.drew {w wr : World} {row : List Int} {m k : Nat} (h : PackTo w wr row m k) : PackTo w wr.drew row m k := ⟨h.1.drew, h.2.1, h.2.2.drew⟩
theorem PackTo.next {w wr : World} {row : List Int} {m k : Nat} (h : PackTo w wr row m k) (hk : k < row.length) :
    PackTo w (wr.setCell ⟨w.heap.size + 1, k / 8, none⟩ (.int .u8 (topB row (k / 8) (k % 8 + 1)))) row m (k + 1) := by
  obtain ⟨h1, ⟨cs, hc, h2⟩, h3⟩ := h
  have h4 := (h1.stored (k / 8) (.int .u8 (topB row (k / 8) (k % 8 + 1)))).1
  rw [cu8_set, packN_succ row k hk] at h4
  exact ⟨h4, ⟨cs, hc, h2.far (by simp) _⟩, h3.setCell (by simp) _⟩
theorem PackTo.cell {w wr : World} {row : List Int} {m k : Nat} (h : PackTo w wr row m k) (hm : m = (row.length + 7) / 8) (hk : k < row.length) :
    wr.cell? ⟨w.heap.size + 1, k / 8, none⟩ = some (.int .u8 (topB row (k / 8) (k % 8))) ∧ wr.frozen? ⟨w.heap.size + 1, k / 8, none⟩ = false := by
  refine ⟨?_, h.1.frozenAt _⟩
  rw [h.1.cellAt _ (by omega), cu8, List.getElem?_map, packN_at _ _ hk]
  rfl
set_option maxRecDepth 100000 in
set_option maxHeartbeats 1000000 in
theorem l02Bits (row : List Int) (g off cap : Nat) (w : World) (hn : row.length ≤ 32000) (hb : Bit01 row) (hr : RowAt w g off row) :
    Calls Try.prog 42 #[.slice (some ⟨g, off, none⟩) row.length cap] w fun e w' => e = .returned (.agg #[.int .i64 row.length, .string (packS row)]) ∧ Below w.heap.size w w' := by
  obtain ⟨i0, hi, hz0, hz1, hz2⟩ := info_parts infoU8b
  have HI := Aside.mk hi
  have HB := Aside.mk hb
  have HR := Aside.mk hr
  have HO := Aside.mk (topB_or hb)
  have hN := Aside.mk (packN_length row row.length)
  obtain ⟨n, hl⟩ : ∃ n, n = row.length := ⟨_, rfl⟩
  have HL := Aside.mk hl
  rw [← hl] at hn ⊢
  clear hi hb hr hl
  obtain ⟨m, hm⟩ : ∃ m, m = (n + 7) / 8 := ⟨_, rfl⟩
  have HM := Aside.mk hm
  have hm1 : m ≤ 5000 := by omega
  have em : ((n : Int) + 7) / 8 = (m : Int) := by omega
  clear hm
  go_enter Try.func42, Try.ntmps42
  go_wp2_with (at_make; go_loud (refine wpList_make_full _ rfl _ _ 70 rfl (w.heap.size + 1) 5 i0 (.int .u8 0) 1 Try.underlying70 HI.out hz0 hz1 .i64 .i64 _ _ m rfl rfl em em ?sd1 ?sd2 ?sd3 ?_))
  case sd1 => rw [hz2]; omega
  case sd2 => unfold maxLen; omega
  case sd3 => rw [Blk.alloc_size]; exact Nat.le_refl _
  intro w1 hown hgr
  have HT := Aside.mk (PackTo.start (row := row) (m := m) (by rw [← HL.out]; exact HM.out) rfl hown hgr)
  clear hown hgr hz0 hz1 hz2 HI em
  go_wp2_with fail
  go_loopw [4] (fun i wr => ∃ k : Nat, k ≤ n ∧ i = .int .i64 k ∧ Aside (PackTo w wr row m k)) (fun i _ => n - (intOf i).toNat)
  case atStart => exact ⟨0, Nat.zero_le _, rfl, HT⟩
  case round =>
    obtain ⟨k, hk, rfl, ht⟩ := hrel
    clear HT
    by_cases hlt : k < n
    · have hlt2 : k < row.length := by rw [← HL.out]; exact hlt
      obtain ⟨hc, hf⟩ := ht.out.cell (by rw [← HL.out]; exact HM.out) hlt2
      have hc2 : wr.cell? ⟨g, off + k, none⟩ = some (.int .u8 (row.getD k 0)) := (ht.out.2.2.cell (p := ⟨g, off + k, none⟩) HR.out.1).trans (HR.out.2 k hlt2)
      have ht2 := Aside.mk (ht.out.next hlt2)
      have hm2 : k / 8 < m := by have := HM.out; omega
      have ho := HO.out (k / 8) (k % 8) (by omega)
      rw [show 8 * (k / 8) + k % 8 = k by omega, List.getD_eq_getElem?_getD] at ho
      have hb := HB.out k
      rw [List.getD_eq_getElem?_getD] at hb
      have e9 : row[k]?.getD 0 * 2 ^ (7 - k % 8) % 256 = row[k]?.getD 0 * 2 ^ (7 - k % 8) := by
        have hp : (2 : Int) ^ (7 - k % 8) ≤ 128 ∧ 0 < (2 : Int) ^ (7 - k % 8) := by
          have : 7 - k % 8 = 0 ∨ 7 - k % 8 = 1 ∨ 7 - k % 8 = 2 ∨ 7 - k % 8 = 3 ∨ 7 - k % 8 = 4 ∨ 7 - k % 8 = 5 ∨ 7 - k % 8 = 6 ∨ 7 - k % 8 = 7 := by omega
          rcases this with h | h | h | h | h | h | h | h <;> rw [h] <;> decide
        rcases hb with h | h <;> rw [h] <;> omega
      clear hb
      clear hlt2
      have e1 : IntKind.i64.wrap ((k : Int) / 8) = (k : Int) / 8 := by rw [IntKind.wrap_i64]; omega
      have e2 : (k : Int).tmod 8 = (k : Int) % 8 := Int.tmod_eq_emod_of_nonneg (by omega)
      have e3 : IntKind.i64.wrap (7 - (k : Int) % 8) = 7 - (k : Int) % 8 := by rw [IntKind.wrap_i64]; omega
      have e4 : IntKind.u64.wrap (7 - (k : Int) % 8) = 7 - (k : Int) % 8 := IntWalk.u64_in _ ⟨by omega, by omega⟩
      have e5 : ((k : Int) / 8).toNat = k / 8 := by omega
      have e6 : (7 - (k : Int) % 8).toNat = 7 - k % 8 := by omega
      have e7 : (0 : Int) ≤ (k : Int) / 8 := by omega
      have e8 : (k : Int) / 8 < m := by omega
      go_wp2_with fail
      go_still_tail 18, (by kernel_rfl)
      change wpList _ _ _ _ _ wr.drew
      have ht3 := Aside.mk (ht.out.drew.next (by rw [← HL.out]; exact hlt))
      replace hc : wr.drew.cell? ⟨w.heap.size + 1, k / 8, none⟩ = _ := hc
      replace hf : wr.drew.frozen? ⟨w.heap.size + 1, k / 8, none⟩ = _ := hf
      generalize wr.drew = w2 at *
      go_wp2_with fail
      go_roundw
      case rel => exact ⟨k + 1, by omega, by go_num, ht3⟩
      case measure => simp [intOf]; omega
    · obtain rfl : k = n := by omega
      have hcv := own_str (P := Try.prog) Try.underlying70 Try.underlying5 Try.underlying9 ht.out.1
      obtain ⟨cs, hcs, hbk⟩ := ht.out.2.1
      have HC := Aside.mk hcs
      have HK := Aside.mk hbk
      clear hcs hbk
      go_wp2_with (refine wpList_store_blk rfl 27 _ _ rfl w.heap.size [.int .i64 k, .string (strOfNums (packN row k))] rfl rfl 27 cs HK.out (by kernel_rfl) HC.out rfl ?_; intro w2 k2 hg2; have K2 := Aside.mk k2; have B2 := Aside.mk (below_grown ht.out.2.2 hg2 (Nat.le_refl _)); clear k2 hg2)
      refine bodyPost_ret (res_c rfl _ _ w.heap.size 27 [.int .i64 k, .string (strOfNums (packN row k))] _ rfl K2.out Try.underlying27 rfl (by kernel_rfl)) rfl ⟨by rw [packS, ← HL.out], B2.out⟩
end Go.Proofs.Ytjjnlbimegabpaa.Fn
