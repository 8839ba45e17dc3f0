/- Walks of the program's Digest and of its law. Conditions: those of each theorem. -/
import Derived.Test.YtlopbheahedofaaDoorDigest
import Derived.Lib.LaidTab
set_option linter.unusedVariables false
namespace Go.Proofs.YtlopbheahedofaaDoor.Fn
open Go.RowKit Go.Proofs.YtlopbheahedofaaDoor.Lib Go.Proofs.YtlopbheahedofaaDoor.Plan Go.Proofs

theorem grow_below (w : World) (k : Nat) (os : Array Obj) : Below w.heap.size w (Go.Sort.grow (w.drewN k) os) := by
  refine ⟨rfl, rfl, rfl, ?_, fun i hi => ?_⟩
  · show w.heap.size ≤ (w.heap ++ os).size
    rw [Array.size_append]
    omega
  · show (w.heap ++ os)[i]? = w.heap[i]?
    rw [Array.getElem?_append_left hi]
theorem itoa_digB (m : Nat) : (⟨(Go.Lib.itoa (m : Int)).toArray⟩ : ByteArray) = digB m := by
  rw [Go.Lib.itoa, if_neg (by omega)]
  rfl
theorem tab_below {w w1 : World} {zs : List Int} (h : Go.Lib.TabIs Tryd.prog w "internal/strconv.uint64pow10" .u64 zs) (hb : Below w.heap.size w w1) : Go.Lib.TabIs Tryd.prog w1 "internal/strconv.uint64pow10" .u64 zs := by
  unfold Go.Lib.TabIs at h ⊢
  rw [← h]
  unfold World.var? at h ⊢
  cases hg : Tryd.prog.globalNamed "internal/strconv.uint64pow10" with
  | none => rfl
  | some g =>
    rw [hg] at h
    by_cases hlt : g < w.heap.size
    · simp only [Option.bind_some] at h ⊢
      simp only [hb.block g hlt]
    · exfalso
      have hn : w.heap[g]? = none := Array.getElem?_eq_none (by omega)
      simp [hn] at h
theorem iDigest (c : ByteArray) (n : Int) (w : World) (hc : c.size ≤ 1048576) (h0 : -9223372036854775808 ≤ n) (h1 : n ≤ 9223372036854775807) (htab : Go.Lib.TabIs Tryd.prog w "internal/strconv.uint64pow10" .u64 Go.Lib.pow10Tab) :
    Calls Tryd.prog 40 #[.string c, .int .i64 n] w fun e w' => e = .returned (.int .i64 (digV c n)) ∧ Below w.heap.size w w' := by
  obtain ⟨res, hres⟩ : ∃ r, r = digV c n := ⟨_, rfl⟩
  rw [← hres]
  have HT := Aside.mk htab
  clear htab
  by_cases h : 0 ≤ n ∧ n ≤ 4294967295
  · obtain ⟨m, rfl⟩ := Int.eq_ofNat_of_zero_le h.1
    have hm : m ≤ 4294967295 := by omega
    have hm2 : (m : Int) ≤ 4294967295 := by omega
    have E : Aside (res = Lib.hash (digText c m)) := ⟨by rw [hres, digV, if_pos h]; rfl⟩
    have hz := digB_len hm
    have hs : (digText c m).size ≤ 140737488355328 := by
      unfold digText
      simp only [ByteArray.size_append]
      have : (⟨#[58]⟩ : ByteArray).size = 1 := rfl
      omega
    have s1 : (⟨#[58]⟩ : ByteArray).size = 1 := rfl
    have a1 : ∀ wx, (Op.stringOp .add c ⟨#[58]⟩).run Tryd.prog wx = .ok (.string (c ++ ⟨#[58]⟩)) wx := fun wx => run_string_add_sum (w := wx) _ _ (by omega)
    have a2 : ∀ wx, (Op.stringOp .add (c ++ ⟨#[58]⟩) (digB m)).run Tryd.prog wx = .ok (.string ((c ++ ⟨#[58]⟩) ++ digB m)) wx := fun wx => run_string_add_sum (w := wx) _ _ (by simp only [ByteArray.size_append]; omega)
    have a3 : ∀ wx, (Op.stringOp .add ((c ++ ⟨#[58]⟩) ++ digB m) ⟨#[58]⟩).run Tryd.prog wx = .ok (.string (((c ++ ⟨#[58]⟩) ++ digB m) ++ ⟨#[58]⟩)) wx := fun wx => run_string_add_sum (w := wx) _ _ (by simp only [ByteArray.size_append]; omega)
    have a4 : ∀ wx, (Op.stringOp .add (((c ++ ⟨#[58]⟩) ++ digB m) ++ ⟨#[58]⟩) c).run Tryd.prog wx = .ok (.string (digText c m)) wx := fun wx => run_string_add_sum (w := wx) _ _ (by simp only [ByteArray.size_append]; omega)
    have hm0 : (0 : Int) ≤ m := by omega
    clear hres h h0 h1
    go_enter Tryd.func40, Tryd.ntmps40
    go_wp2_with fail
    refine (Tryd.strconv_Itoa (m : Int) (by omega) (by omega) _ HT.out).mono ?_
    rintro e w1 ⟨rfl, k, os, hw1⟩
    have hb1 : Below w.heap.size w w1 := by rw [hw1]; exact grow_below _ _ _
    rw [itoa_digB]
    clear hw1
    go_wp2_with fail
    refine (hashOf (digText c m) _ hs).mono ?_
    rintro e w' ⟨rfl, rfl⟩
    go_wp2
    go_ret
    exact ⟨ret_int E.out.symm, hb1⟩
  · have E : Aside (res = 0) := ⟨by rw [hres, digV, if_neg h]⟩
    by_cases hn : n < 0
    · clear hres h
      go_enter Tryd.func40, Tryd.ntmps40
      go_wp2
      go_ret
      exact ⟨ret_int E.out.symm, Below.refl _ _⟩
    · have hn2 : 4294967295 < n := by omega
      clear hres h
      go_enter Tryd.func40, Tryd.ntmps40
      go_wp2
      go_ret
      exact ⟨ret_int E.out.symm, Below.refl _ _⟩
end Go.Proofs.YtlopbheahedofaaDoor.Fn
