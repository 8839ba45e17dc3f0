/- Walks of Digest. Conditions: those of each theorem. -/
import Derived.Test.YtlopbheahedofaaDoorDig
import Derived.Test.YtlopbheahedofaaDoorShelf
set_option linter.unusedVariables false
namespace Go.Proofs.YtlopbheahedofaaDoor.Fn
open Go.RowKit Go.Proofs.YtlopbheahedofaaDoor.Lib Go.Proofs.YtlopbheahedofaaDoor.Plan

/-- The text whose number is the digest. -/
def digText (c : ByteArray) (n : Nat) : ByteArray := (((c ++ ⟨#[58]⟩) ++ digB n) ++ ⟨#[58]⟩) ++ c
def digV (c : ByteArray) (n : Int) : Int := if 0 ≤ n ∧ n ≤ 4294967295 then Lib.hash (digText c n.toNat) else 0
theorem digB_len {n : Nat} (h : n ≤ 4294967295) : (digB n).size ≤ 4294967296 := by
  have := digB_size n (by omega)
  omega
theorem sDigest (c : ByteArray) (n : Int) (w : World) (hc : c.size ≤ 1048576) : Calls Tryd.prog 11 #[.string c, .int .i64 n] w fun e w' => e = .returned (.int .i64 (digV c n)) ∧ Below w.heap.size w w' := by
  obtain ⟨res, hres⟩ : ∃ r, r = digV c n := ⟨_, rfl⟩
  rw [← hres]
  by_cases h : 0 ≤ n ∧ n ≤ 4294967295
  · obtain ⟨m, rfl⟩ := Int.eq_ofNat_of_zero_le h.1
    have hm : m ≤ 4294967295 := by omega
    have E : Aside (res = Lib.hash (digText c m)) := ⟨by rw [hres, digV, if_pos h]; rfl⟩
    have hz := digB_len hm
    have hb : (decide (0 ≤ (m : Int)) && decide ((m : Int) ≤ 4294967295)) = true := by simp; omega
    have hs : (digText c m).size ≤ 140737488355328 := by
      unfold digText
      simp only [ByteArray.size_append]
      have : (⟨#[58]⟩ : ByteArray).size = 1 := rfl
      omega
    have s1 : (⟨#[58]⟩ : ByteArray).size = 1 := rfl
    have a1 : ∀ wx, (Op.stringOp .add c ⟨#[58]⟩).run Tryd.prog wx = .ok (.string (c ++ ⟨#[58]⟩)) wx := fun wx => run_string_add_sum (w := wx) _ _ (by omega)
    have a2 : ∀ wx, (Op.stringOp .add (c ++ ⟨#[58]⟩) (digB m)).run Tryd.prog wx = .ok (.string ((c ++ ⟨#[58]⟩) ++ digB m)) wx := fun wx => run_string_add_sum (w := wx) _ _ (by simp only [ByteArray.size_append]; omega)
    have a3 : ∀ wx, (Op.stringOp .add ((c ++ ⟨#[58]⟩) ++ digB m) ⟨#[58]⟩).run Tryd.prog wx = .ok (.string (((c ++ ⟨#[58]⟩) ++ digB m) ++ ⟨#[58]⟩)) wx := fun wx => run_string_add_sum (w := wx) _ _ (by simp only [ByteArray.size_append]; omega)
    have a4 : ∀ wx, (Op.stringOp .add (((c ++ ⟨#[58]⟩) ++ digB m) ++ ⟨#[58]⟩) c).run Tryd.prog wx = .ok (.string (digText c m)) wx := fun wx => run_string_add_sum (w := wx) _ _ (by simp only [ByteArray.size_append]; omega)
    clear hres h
    go_enter Tryd.func11, Tryd.ntmps11
    go_wp2_with fail
    refine (between (m : Int) 0 4294967295 _).mono ?_
    rintro e w' ⟨rfl, rfl⟩
    rw [hb]
    go_wp2_with fail
    refine (l01Digits m _ (by omega)).mono ?_
    rintro e w1 ⟨rfl, hb1⟩
    go_wp2_with fail
    refine (l13Hash (digText c m) _ hs).mono ?_
    rintro e w' ⟨rfl, rfl⟩
    go_wp2
    go_ret
    exact ⟨ret_int E.out.symm, hb1⟩
  · have E : Aside (res = 0) := ⟨by rw [hres, digV, if_neg h]⟩
    have hb : (decide (0 ≤ n) && decide (n ≤ 4294967295)) = false := by simp; omega
    clear hres h
    go_enter Tryd.func11, Tryd.ntmps11
    go_wp2_with fail
    refine (between n 0 4294967295 _).mono ?_
    rintro e w' ⟨rfl, rfl⟩
    rw [hb]
    go_wp2
    go_ret
    exact ⟨ret_int E.out.symm, Below.refl _ _⟩
end Go.Proofs.YtlopbheahedofaaDoor.Fn
