/- Walks of (*unpacker).take and (*unpacker).number: what is taken, and how the reader's state changes. Conditions: those of each theorem. -/
import Derived.Test.YtlopbheahedofaaDoorBytes
import Derived.Lib.ConvBytes
set_option linter.unusedVariables false
namespace Go.Proofs.YtlopbheahedofaaDoor.Fn
open Go.RowKit Go.Proofs.YtlopbheahedofaaDoor.Lib

set_option maxRecDepth 100000 in
theorem take_ok (g : Nat) (T : TypeId) (data : ByteArray) (k m : Nat) (l f : Value) (w : World) (hb : Blk w g T [.string data, .int .i64 k, .bool false, l, f]) (hk : k + m ≤ data.size) (hd : data.size ≤ 140737488355328) :
    Calls Tryd.prog 47 #[.pointer (some ⟨g, 0, none⟩), .int .i64 m] w
      fun e w' => e = .returned (.string (data.extract k (k + m))) ∧ w.grownBy w' (some g) ∧ Blk w' g T [.string data, .int .i64 (k + m : Nat), .bool false, l, f] := by
  have hc0 := hb.cell 0
  have hc1 := hb.cell 1
  have hc2 := hb.cell 2
  have hf1 := hb.free 1
  have HB := Aside.mk hb
  clear hb
  simp only [List.getElem?_cons_zero, List.getElem?_cons_succ] at hc0 hc1 hc2
  have hd0 : decide ((m : Int) < 0) = false := by simp
  have hd1 : decide ((data.size : Int) - k < m) = false := by simp; omega
  have hsl : ∀ wx, (Instr.slice 9 (.string data) (some (.int .i64 (k : Int))) (some (.int .i64 ((k : Int) + m))) none).run Tryd.prog wx = .ok (.string (data.extract k (k + m))) wx := fun wx => by
    have := run_slice_string (w := wx) 9 data .i64 .i64 (k : Int) ((k : Int) + m) Tryd.underlying9 (by omega) (by omega) (by omega)
    rw [show ((k : Int) + m).toNat = k + m by omega, Int.toNat_natCast] at this
    exact this
  have hew : IntKind.i64.wrap ((k : Int) + m - m) = (k : Int) := by rw [IntWalk.i64_in _ (by omega)]; omega
  go_enter Tryd.func47, Tryd.ntmps47
  go_wp2_with fail
  go_quiet (fail)
  go_wp2_with fail
  have hg2 := grown_set (grown_drewN (grown_refl w (some g)) nq) 1 (.int .i64 ((k : Int) + m))
  have hb2 := Blk.set (HB.out.drewN nq) 1 (.int .i64 ((k : Int) + m))
  clear hc0 hc1 hc2 hf1
  generalize (w.drewN nq).setCell ⟨g, 1, none⟩ (.int .i64 ((k : Int) + m)) = w2 at hg2 hb2 ⊢
  have hc0 := hb2.cell 0
  have hc1 := hb2.cell 1
  simp only [List.set_cons_succ, List.set_cons_zero, List.getElem?_cons_zero, List.getElem?_cons_succ] at hc0 hc1
  simp only [List.set_cons_succ, List.set_cons_zero] at hb2
  have HG := Aside.mk hg2
  have HB2 := Aside.mk hb2
  clear hg2 hb2
  go_quiet (fail)
  go_wp2_with fail
  go_ret
  exact ⟨rfl, grown_drewN HG.out _, HB2.out.drewN _⟩
theorem take_bad (g : Nat) (T : TypeId) (data : ByteArray) (k n : Int) (bad : Bool) (l f : Value) (w : World) (hb : Blk w g T [.string data, .int .i64 k, .bool bad, l, f]) (hk0 : 0 ≤ k) (hk1 : k ≤ data.size) (hn0 : -140737488355328 ≤ n) (hn1 : n ≤ 140737488355328) (hd : data.size ≤ 140737488355328)
    (h : bad = true ∨ n < 0 ∨ (data.size : Int) - k < n) :
    Calls Tryd.prog 47 #[.pointer (some ⟨g, 0, none⟩), .int .i64 n] w
      fun e w' => e = .returned (.string ⟨#[]⟩) ∧ w.grownBy w' (some g) ∧ Blk w' g T [.string data, .int .i64 k, .bool true, l, f] := by
  have hc0 := hb.cell 0
  have hc1 := hb.cell 1
  have hc2 := hb.cell 2
  have hf2 := hb.free 2
  have HB := Aside.mk hb
  clear hb
  simp only [List.getElem?_cons_zero, List.getElem?_cons_succ] at hc0 hc1 hc2
  have key : bad = true ∨ (bad = false ∧ n < 0) ∨ (bad = false ∧ ¬ n < 0 ∧ (data.size : Int) - k < n) := by
    cases bad
    · by_cases h0 : n < 0
      · exact .inr (.inl ⟨rfl, h0⟩)
      · exact .inr (.inr ⟨rfl, h0, by rcases h with h | h | h <;> first | cases h | omega⟩)
    · exact .inl rfl
  clear h
  have fin : ∀ nq, w.grownBy ((w.drewN nq).setCell ⟨g, 2, none⟩ (.bool true)) (some g) ∧ Blk ((w.drewN nq).setCell ⟨g, 2, none⟩ (.bool true)) g T [.string data, .int .i64 k, .bool true, l, f] := fun nq =>
    ⟨grown_set (grown_drewN (grown_refl w (some g)) nq) 2 _, Blk.set (HB.out.drewN nq) 2 _⟩
  have FIN := Aside.mk fin
  clear fin
  rcases key with rfl | ⟨rfl, h0⟩ | ⟨rfl, h0, h1⟩
  · go_enter Tryd.func47, Tryd.ntmps47
    go_wp2_with fail
    go_quiet (fail)
    go_wp2_with fail
    go_ret
    exact ⟨rfl, FIN.out _⟩
  · have hd0 : decide (n < 0) = true := decide_eq_true h0
    go_enter Tryd.func47, Tryd.ntmps47
    go_wp2_with fail
    go_quiet (fail)
    go_wp2_with fail
    go_ret
    exact ⟨rfl, FIN.out _⟩
  · have hd0 : decide (n < 0) = false := decide_eq_false h0
    have hd1 : decide ((data.size : Int) - k < n) = true := decide_eq_true h1
    go_enter Tryd.func47, Tryd.ntmps47
    go_wp2_with fail
    go_quiet (fail)
    go_wp2_with fail
    go_ret
    exact ⟨rfl, FIN.out _⟩
set_option maxRecDepth 100000 in
theorem number_ok (g : Nat) (T : TypeId) (data : ByteArray) (k m : Nat) (l f : Value) (w : World) (hb : Blk w g T [.string data, .int .i64 k, .bool false, l, f]) (hk : k + m ≤ data.size) (hm : m ≤ 7) (hd : data.size ≤ 140737488355328) :
    Calls Tryd.prog 37 #[.pointer (some ⟨g, 0, none⟩), .int .i64 m] w
      fun e w' => e = .returned (.int .i64 (numB (data.extract k (k + m)))) ∧ w.grownBy w' (some g) ∧ Blk w' g T [.string data, .int .i64 (k + m : Nat), .bool false, l, f] := by
  have HB := Aside.mk hb
  clear hb
  obtain ⟨s, hs⟩ : ∃ s, s = data.extract k (k + m) := ⟨_, rfl⟩
  have hsz : s.size = m := by rw [hs, ByteArray.size_extract]; omega
  rw [← hs]
  have HS := Aside.mk hs
  have HZ := Aside.mk hsz
  clear hs hsz
  go_enter Tryd.func37, Tryd.ntmps37
  go_wp2_with fail
  refine (take_ok g T data k m l f _ HB.out hk hd).mono ?_
  rw [← HS.out]
  rintro e w1 ⟨rfl, hg1, hb1⟩
  have HG := Aside.mk hg1
  have HB1 := Aside.mk hb1
  clear hg1 hb1
  obtain ⟨c2, w2, hcv, hbl, hsz2, hcell⟩ := conv_bytes (P := Tryd.prog) w1 s Tryd.underlying9 Tryd.underlying22 Tryd.underlying5
  have HW := Aside.mk hsz2
  have HBL := Aside.mk hbl
  have HCELL := Aside.mk hcell
  clear hsz2 hbl hcell
  go_wp2_with fail
  go_loopw [5, 13] (fun x i wr => ∃ (j : Nat) (y : Int), j ≤ s.size ∧ i = .int .i64 j ∧ x = .int .i64 y ∧ 0 ≤ y ∧ wr = w2 ∧ Aside (y = numOf (s.data.toList.take j))) (fun _ i _ => s.size - (intOf i).toNat)
  case atStart => exact ⟨0, 0, Nat.zero_le _, rfl, rfl, by omega, rfl, ⟨rfl⟩⟩
  case round =>
    obtain ⟨j, y, hj, rfl, rfl, hy0, rfl, hy⟩ := hrel
    by_cases hlt : j < s.size
    · have hc := HCELL.out j hlt
      have hb := (s[j]).toNat_lt
      have hs7 : j < 7 := by rw [HZ.out] at hlt; omega
      have hy1 : y < 281474976710656 := by rw [hy.out]; exact numOf_lt (k := j) (m := j + 1) (by simp; omega) (by omega) (by omega)
      have HN := numOf_snoc (s.data.toList.take j) s[j]
      rw [← take_snoc s j hlt, ← hy.out] at HN
      replace HN := Aside.mk HN
      go_wp2_with fail
      go_roundw
      case rel => exact ⟨j + 1, _, by omega, by go_num, rfl, by rw [i64_join y _ hy0 hy1 (by omega) (by omega)]; omega, (by first | rfl | trivial), ⟨by rw [i64_join y _ hy0 hy1 (by omega) (by omega)]; exact HN.out.symm⟩⟩
      case measure => simp [intOf]; omega
    · obtain rfl : j = s.size := by omega
      go_wp2_with fail
      go_ret
      exact ⟨ret_int (by rw [hy.out, take_all]; rfl), grown_below HG.out HBL.out, HB1.out.below HBL.out⟩
set_option maxRecDepth 100000 in
theorem number_bad (g : Nat) (T : TypeId) (data : ByteArray) (k n : Int) (bad : Bool) (l f : Value) (w : World) (hb : Blk w g T [.string data, .int .i64 k, .bool bad, l, f]) (hk0 : 0 ≤ k) (hk1 : k ≤ data.size) (hn0 : -140737488355328 ≤ n) (hn1 : n ≤ 140737488355328) (hd : data.size ≤ 140737488355328)
    (h : bad = true ∨ n < 0 ∨ (data.size : Int) - k < n) :
    Calls Tryd.prog 37 #[.pointer (some ⟨g, 0, none⟩), .int .i64 n] w
      fun e w' => e = .returned (.int .i64 0) ∧ w.grownBy w' (some g) ∧ Blk w' g T [.string data, .int .i64 k, .bool true, l, f] := by
  have HB := Aside.mk hb
  have H := Aside.mk h
  clear hb h
  go_enter Tryd.func37, Tryd.ntmps37
  go_wp2_with fail
  refine (take_bad g T data k n bad l f _ HB.out hk0 hk1 hn0 hn1 hd H.out).mono ?_
  rintro e w1 ⟨rfl, hg1, hb1⟩
  have HG := Aside.mk hg1
  have HB1 := Aside.mk hb1
  clear hg1 hb1
  obtain ⟨c2, w2, hcv, hbl, _, _⟩ := conv_bytes (P := Tryd.prog) w1 ⟨#[]⟩ Tryd.underlying9 Tryd.underlying22 Tryd.underlying5
  have HBL := Aside.mk hbl
  clear hbl
  go_wp2_with fail
  go_loopw [5, 13] (fun x i wr => x = .int .i64 0 ∧ i = .int .i64 0 ∧ wr = w2) (fun _ _ _ => 0)
  case atStart => exact ⟨rfl, rfl, rfl⟩
  case round =>
    obtain ⟨rfl, rfl, rfl⟩ := hrel
    go_wp2_with fail
    go_ret
    exact ⟨rfl, grown_below HG.out HBL.out, HB1.out.below HBL.out⟩
end Go.Proofs.YtlopbheahedofaaDoor.Fn
