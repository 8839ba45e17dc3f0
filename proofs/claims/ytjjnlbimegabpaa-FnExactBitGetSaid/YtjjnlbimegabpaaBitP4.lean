/- Walks of (*bitRow).row, put and BitPut. Conditions: those of each theorem. -/
import Derived.Test.YtjjnlbimegabpaaBitP3
set_option linter.unusedVariables false
namespace Go.Proofs.Ytjjnlbimegabpaa.Fn
open Go.RowKit Go.Proofs.Ytjjnlbimegabpaa.Lib Go.Proofs.Ytjjnlbimegabpaa.Plan

set_option maxRecDepth 100000 in
theorem bitRow_row (w : World) (g base m n : Nat) (v : Value) (xs : List Int) (hb : Blk w g 104 [.int .i64 n, v]) (ho : w.ownsRow base 5 1 v m (cu8 xs)) :
    Calls Try.prog 71 #[.pointer (some ⟨g, 0, none⟩)] w fun e w' => e = .returned (.agg #[.int .i64 n, .string (strOfNums xs)]) ∧ Below w.heap.size w w' := by
  have B1 := Aside.mk (Blk.newAt w 27 [.int .i64 0, .string ⟨#[]⟩] rfl)
  have BB := Aside.mk ((Below.refl w.heap.size w).alloc (Nat.le_refl _) (.cells #[.int .i64 0, .string ⟨#[]⟩] 27))
  have HO := Aside.mk ho
  have HK := Aside.mk hb
  clear ho hb
  go_enter Try.func71, Try.ntmps71
  go_wp2_with fail
  have K := HK.out.alloc (.cells #[.int .i64 0, .string ⟨#[]⟩] 27)
  have O := HO.out.alloc (.cells #[.int .i64 0, .string ⟨#[]⟩] 27)
  have BB1 := BB.out
  have BK1 := B1.out
  change Blk (w.alloc (.cells #[.int .i64 0, .string ⟨#[]⟩] 27)) _ _ _ at BK1
  generalize w.alloc (.cells #[.int .i64 0, .string ⟨#[]⟩] 27) = w1 at K O BB1 BK1 ⊢
  have c0 := K.cell 0
  have c1 := K.cell 1
  have hcv := own_str (P := Try.prog) Try.underlying70 Try.underlying5 Try.underlying9 O.drew
  go_still_tail 10, (by kernel_rfl)
  change wpList _ _ _ _ _ w1.drew
  refine wpList_store_blk rfl 27 _ _ rfl w.heap.size [.int .i64 n, .string (strOfNums xs)] rfl rfl 27 _ BK1.drew (by kernel_rfl) rfl rfl ?_
  intro w2 k2 hg2
  have K2 := Aside.mk k2
  have B2 := Aside.mk (below_grown BB1.drew hg2 (Nat.le_refl _))
  clear k2 hg2 K O BB1 BK1 c0 c1 hcv
  go_wp2_with fail
  refine bodyPost_ret (res_c rfl _ _ w.heap.size 27 [.int .i64 n, .string (strOfNums xs)] _ rfl K2.out Try.underlying27 rfl (by kernel_rfl)) rfl ⟨rfl, B2.out⟩

theorem Adds.start (w0 W1 : World) (g B : Nat) (row : List Int) (hB : B = W1.heap.size) (hg : g < B) (hb : Blk W1 g 104 [.int .i64 0, .slice none 0 0]) : Adds W1 W1 B g row 0 0 0 (.slice none 0 0) :=
  ⟨hb, World.ownsRow_nil _ _ _ _, by omega, hg, rfl, rfl, rfl, fun _ _ _ => rfl⟩
theorem Adds.below {w W1 wr : World} {B g : Nat} {row : List Int} {m k n : Nat} {v : Value} (h : Adds W1 wr B g row m k n v) (hw : Below w.heap.size w W1) (hg : w.heap.size ≤ g) (hB : w.heap.size ≤ B) : Below w.heap.size w wr :=
  ⟨h.os.trans hw.os, h.tape.trans hw.tape, h.output.trans hw.output, by have := h.base; omega, fun i hi => (h.same i (by omega) (by omega)).trans (hw.block i hi)⟩
theorem cell_same {w w1 : World} {g : Nat} (h : w.heap[g]? = w1.heap[g]?) (j : Nat) : w.cell? ⟨g, j, none⟩ = w1.cell? ⟨g, j, none⟩ := by simp [World.cell?, h]
theorem putI_get (v : Int) (size : Nat) (little : Bool) (k : Nat) (h : k < (order size little).length) : (putI v size little).getD k 0 = bitV v ((order size little)[k]) := by
  rw [putI, List.getD_eq_getElem?_getD, List.getElem?_map, List.getElem?_eq_getElem h]
  rfl
theorem ordI_get (size : Nat) (little : Bool) (k : Nat) (h : k < (order size little).length) : (ordI size little).getD k 0 = ((order size little)[k] : Int) := by
  rw [ordI, List.getD_eq_getElem?_getD, List.getElem?_map, List.getElem?_eq_getElem h]
  rfl
theorem bit_eq (b : Int) (h : 0 ≤ b ∧ b ≤ 1) : b = if (b == 1) = true then 1 else 0 := by
  have : b = 0 ∨ b = 1 := by omega
  rcases this with rfl | rfl <;> rfl
set_option maxRecDepth 100000 in
set_option maxHeartbeats 2000000 in
theorem put (v : Int) (size : Nat) (little : Bool) (w : World) (h0 : -9223372036854775808 ≤ v) (h1 : v ≤ 9223372036854775807) (hs : size ≤ 49) :
    Calls Try.prog 52 #[.int .i64 v, .int .i64 size, .bool little] w fun e w' => e = .returned (.agg #[.int .i64 size, .string (packS (putI v size little))]) ∧ Below w.heap.size w w' := by
  have HA := Aside.mk i64_and_one
  have HV := Aside.mk (div_range v h0 h1)
  have HL := Aside.mk (order_length size little hs)
  clear h0 h1
  go_enter Try.func52, Try.ntmps52
  go_wp2_with fail
  refine (bitOrder size little _ hs).mono ?_
  rintro e W1 ⟨gl, cap, rfl, hgl, hrow, hb1⟩
  have K0 := (((Blk.newAt w 27 [.int .i64 0, .string ⟨#[]⟩] rfl).alloc (.cells #[.int .i64 0, .slice none 0 0] 104)).below hb1)
  have KR := ((Blk.newAt (w.alloc (.cells #[.int .i64 0, .string ⟨#[]⟩] 27)) 104 [.int .i64 0, .slice none 0 0] (g := w.heap.size + 1) (by simp)).below hb1)
  have C1 := Aside.mk (below_later (((Below.refl w.heap.size w).alloc (Nat.le_refl _) (.cells #[.int .i64 0, .string ⟨#[]⟩] 27)).alloc (by simp) (.cells #[.int .i64 0, .slice none 0 0] 104)) hb1)
  have hsz := hb1.size
  have hgl2 : w.heap.size + 2 ≤ gl := by simpa using hgl
  have hsz2 : w.heap.size + 2 ≤ W1.heap.size := by simpa using hsz
  obtain ⟨B, hB⟩ : ∃ B, B = W1.heap.size := ⟨_, rfl⟩
  have A0 := Aside.mk (Adds.start w W1 (w.heap.size + 1) B (putI v size little) hB (by omega) KR)
  have KK0 := Aside.mk K0
  have HR := Aside.mk hrow
  have HBB := Aside.mk hB
  have e30 : w.heap.size + 2 ≤ B := by omega
  clear hb1 K0 KR hgl hsz hrow hB
  go_wp2_with fail
  go_loopw [16, 9] (fun i _ wr => ∃ (k : Nat) (u : Value), k ≤ size ∧ i = .int .i64 k ∧ Aside (Adds W1 wr B (w.heap.size + 1) (putI v size little) ((k + 7) / 8) k k u)) (fun i _ _ => size - (intOf i).toNat)
  case atStart => exact ⟨0, _, Nat.zero_le _, rfl, A0⟩
  case round =>
    obtain ⟨k, u, hk, rfl, ha⟩ := hrel
    clear A0
    by_cases hlt : k < size
    · have hko : k < (order size little).length := by rw [HL.out]; exact hlt
      obtain ⟨i, hi⟩ : ∃ i, i = (order size little)[k] := ⟨_, rfl⟩
      have his : i < size := by rw [hi]; exact order_lt size little _ (List.getElem_mem _)
      have hc : wr.cell? ⟨gl, k, none⟩ = some (.int .i64 (i : Int)) := by
        rw [cell_same (ha.out.same gl (by rw [HBB.out]; exact HR.out.1) (by omega))]
        have := HR.out.2 k (by rw [ordI, List.length_map]; exact hko)
        rw [ordI_get _ _ _ hko, Nat.zero_add, ← hi] at this
        exact this
      have hr := HV.out i
      have hand := HA.out (v / 2 ^ i) hr.1 hr.2
      rw [show v / 2 ^ i % 2 = bitV v i from rfl] at hand
      have hbit : (putI v size little).getD k 0 = if (bitV v i == 1) = true then 1 else 0 := by
        rw [putI_get v size little k hko, ← hi]
        exact bit_eq _ (bitV_range v i)
      have HBIT := Aside.mk hbit
      clear hbit hi hko hr
      go_wp2_with fail
      refine (add W1 wr B (w.heap.size + 1) (putI v size little) k u (bitV v i == 1) (putI_bit01 v size little) (by omega) HBIT.out ha.out).mono ?_
      rintro e w2 ⟨rfl, v2, ha2⟩
      have A2 := Aside.mk ha2
      clear ha2 ha hc hand HBIT
      go_wp2_with fail
      go_roundw
      case rel => exact ⟨k + 1, v2, by omega, by go_num, A2⟩
      case measure => first | (simp [intOf]; done) | (simp [intOf]; omega)
    · obtain rfl : k = size := by omega
      have hlen := putI_length v k little hs
      have C2 := ha.out.below C1.out (by omega) (by omega)
      have K2 : Blk wr w.heap.size 27 [.int .i64 0, .string ⟨#[]⟩] := (ha.out.same w.heap.size (by omega) (by omega)).trans KK0.out
      have hpack : strOfNums (packM (putI v k little) ((k + 7) / 8) k) = packS (putI v k little) := by
        unfold packS
        rw [← packM_all, hlen]
      have HP := Aside.mk hpack
      have CC2 := Aside.mk C2
      have KK2 := Aside.mk K2
      clear hpack C2 K2 hlen
      go_wp2_with fail
      refine (bitRow_row wr (w.heap.size + 1) B _ k u _ ha.out.blk ha.out.owns).mono ?_
      rintro e w2 ⟨rfl, hb2⟩
      rw [HP.out]
      have K3 := Aside.mk (KK2.out.below hb2)
      have C3 := Aside.mk (below_later CC2.out hb2)
      clear hb2
      go_wp2_with (refine wpList_store_blk rfl 27 _ _ rfl w.heap.size [.int .i64 k, .string (packS (putI v k little))] rfl rfl 27 _ K3.out (by kernel_rfl) rfl rfl ?_; intro w3 k3 hg3; have K4 := Aside.mk k3; have C4 := Aside.mk (below_grown C3.out hg3 (Nat.le_refl _)); clear k3 hg3)
      refine bodyPost_ret (res_c rfl _ _ w.heap.size 27 [.int .i64 k, .string (packS (putI v k little))] _ rfl K4.out Try.underlying27 rfl (by kernel_rfl)) rfl ⟨rfl, C4.out⟩
end Go.Proofs.Ytjjnlbimegabpaa.Fn
