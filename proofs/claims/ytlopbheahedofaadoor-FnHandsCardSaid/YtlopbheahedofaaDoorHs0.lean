/- Walks of the tests of a hand, both sides. Conditions: those of each theorem. -/
import Derived.Test.YtlopbheahedofaaDoorHand
import Derived.Test.YtlopbheahedofaaDoorGHand
set_option linter.unusedVariables false
namespace Go.Proofs.YtlopbheahedofaaDoor.Fn
open Go Go.RowKit Go.Proofs.YtlopbheahedofaaDoor.Lib Go.Proofs.YtlopbheahedofaaDoor.Plan

theorem hs_zero (t : ByteArray) : t.size = 0 ↔ t = ⟨#[]⟩ := by
  constructor
  · intro h
    have h2 : t.data.size = 0 := h
    cases t
    simp at h2
    rw [h2]
  · intro h
    rw [h]
    rfl
theorem hs_full (t : ByteArray) (h : ¬ t.size = 0) : t.toList.isEmpty = false := by
  rw [ByteArray.toList_eq]
  cases hl : t.data.toList with
  | nil => exact absurd (show t.data.size = 0 by rw [← Array.length_toList, hl]; rfl) h
  | cons _ _ => rfl
/-- A hand that may be. -/
def handB (st : Int) (name cookie : ByteArray) (flags mine : Int) (calls peer : ByteArray) (both : Int) : Bool :=
  baseB name cookie flags mine && decide (0 ≤ st) && decide (st ≤ 6) && (decide (calls.size = 0) || nameB calls) &&
  (if peer.size = 0 then decide (both = 0) && (decide (st ≤ 2) || decide (st = 6)) else decide (3 ≤ st) && nameB peer && decide (0 ≤ both) && decide (both ≤ 65535) && decide (bits .and .i64 both flags = both))
theorem and_zero {y : Int} (hy0 : 0 ≤ y) (hy1 : y ≤ 65535) : bits .and .i64 0 y = 0 := by
  obtain ⟨b, rfl⟩ := Int.eq_ofNat_of_zero_le hy0
  show IntKind.i64.wrap ((BitVec.ofInt 64 (0 : Int) &&& BitVec.ofInt 64 (b : Int)).toNat : Int) = _
  simp
  try rfl
theorem andNot_zero {x y : Int} (hx0 : 0 ≤ x) (hx1 : x ≤ 65535) (hy0 : 0 ≤ y) (hy1 : y ≤ 65535) : bits .andNot .i64 x y = 0 ↔ bits .and .i64 x y = x := by
  obtain ⟨a, rfl⟩ := Int.eq_ofNat_of_zero_le hx0
  obtain ⟨b, rfl⟩ := Int.eq_ofNat_of_zero_le hy0
  obtain ⟨A, hA⟩ : ∃ A, A = BitVec.ofInt 64 (a : Int) := ⟨_, rfl⟩
  obtain ⟨B, hB⟩ : ∃ B, B = BitVec.ofInt 64 (b : Int) := ⟨_, rfl⟩
  have ha : A.toNat = a := by rw [hA]; exact ofInt_u64 a (by omega)
  have l1 : (A &&& ~~~B).toNat ≤ a := by rw [BitVec.toNat_and, ← ha]; exact Nat.and_le_left
  have l2 : (A &&& B).toNat ≤ a := by rw [BitVec.toNat_and, ← ha]; exact Nat.and_le_left
  have e1 : bits .andNot .i64 (a : Int) (b : Int) = (((A &&& ~~~B).toNat : Nat) : Int) := by
    show IntKind.i64.wrap ((BitVec.ofInt 64 (a : Int) &&& ~~~(BitVec.ofInt 64 (b : Int))).toNat : Int) = _
    rw [← hA, ← hB, IntKind.wrap_i64]
    omega
  have e2 : bits .and .i64 (a : Int) (b : Int) = (((A &&& B).toNat : Nat) : Int) := by
    show IntKind.i64.wrap ((BitVec.ofInt 64 (a : Int) &&& BitVec.ofInt 64 (b : Int)).toNat : Int) = _
    rw [← hA, ← hB, IntKind.wrap_i64]
    omega
  rw [e1, e2]
  have key : A &&& ~~~B = 0#64 ↔ A &&& B = A := by
    constructor <;> intro h <;> apply BitVec.eq_of_getLsbD_eq <;> intro i hi
    · have := congrArg (fun x => x.getLsbD i) h
      simp [hi] at this ⊢
      exact this
    · have := congrArg (fun x => x.getLsbD i) h
      simp [hi] at this ⊢
      exact this
  constructor
  · intro h
    have h2 : (A &&& ~~~B).toNat = 0 := by omega
    have h3 : A &&& ~~~B = 0#64 := BitVec.eq_of_toNat_eq (by rw [h2]; rfl)
    rw [key.1 h3, ha]
  · intro h
    have : A &&& B = A := BitVec.eq_of_toNat_eq (by omega)
    rw [key.2 this]
    rfl
set_option maxRecDepth 100000 in
set_option maxHeartbeats 4000000 in
theorem handOK (st : Int) (name cookie : ByteArray) (flags mine : Int) (calls peer : ByteArray) (both : Int) (w : World) (h1 : name.size ≤ 9223372036854775807) (h2 : cookie.size ≤ 9223372036854775807) (h3 : calls.size ≤ 9223372036854775807) (h4 : peer.size ≤ 9223372036854775807) :
    Calls Tryd.prog 26 #[.agg #[.int .i64 st, .string name, .string cookie, .int .i64 flags, .int .i64 mine, .string calls, .string peer, .int .i64 both]] w fun e w' => e = .returned (.bool (handB st name cookie flags mine calls peer both)) ∧ Below w.heap.size w w' := by
  obtain ⟨r, hr⟩ : ∃ r, r = handB st name cookie flags mine calls peer both := ⟨_, rfl⟩
  rw [← hr]
  have HR := Aside.mk hr
  clear hr
  go_enter Tryd.func26, Tryd.ntmps26
  go_wp2_with fail
  refine (handBase st name cookie flags mine calls peer both _ h1 h2).mono ?_
  rintro e w1 ⟨rfl, hb⟩
  have K := Aside.mk ((Blk.new w 27 [.int .i64 st, .string name, .string cookie, .int .i64 flags, .int .i64 mine, .string calls, .string peer, .int .i64 both]).below hb)
  have HB : Aside (Below w.heap.size w w1) := ⟨below_later (by go_grown) hb⟩
  have y0 := K.out.cell 0
  have y1 := K.out.cell 1
  have y2 := K.out.cell 2
  have y3 := K.out.cell 3
  have y4 := K.out.cell 4
  have y5 := K.out.cell 5
  have y6 := K.out.cell 6
  have y7 := K.out.cell 7
  simp only [List.getElem?_cons_zero, List.getElem?_cons_succ] at y0 y1 y2 y3 y4 y5 y6 y7
  clear hb
  cases hbase : baseB name cookie flags mine
  · skip
    have E : Aside (r = false) := ⟨by rw [HR.out]; first | (simp [handB, *]; done) | (simp [handB, *]; omega)⟩
    clear HR
    go_wp2_with fail
    all_goals
      go_ret
      first | exact ⟨ret_bool E.out.symm, HB.out⟩ | (refine ⟨?_, HB.out⟩; rw [E.out]; first | rfl | (simp; done) | (simp [*]; done) | (simp [*]; omega)) | (exfalso; omega) | (exfalso; simp_all; done)
  have hfl : 0 ≤ flags ∧ flags ≤ 65535 := by
    have hb2 := hbase
    unfold baseB at hb2
    simp at hb2
    omega
  by_cases s0 : st < 0
  · have ds0 : decide (st < 0) = true := decide_eq_true s0
    have E : Aside (r = false) := ⟨by rw [HR.out]; first | (simp [handB, *]; done) | (simp [handB, *]; omega)⟩
    clear HR
    go_wp2_with fail
    all_goals
      go_ret
      first | exact ⟨ret_bool E.out.symm, HB.out⟩ | (refine ⟨?_, HB.out⟩; rw [E.out]; first | rfl | (simp; done) | (simp [*]; done) | (simp [*]; omega)) | (exfalso; omega) | (exfalso; simp_all; done)
  have ds0 : decide (st < 0) = false := decide_eq_false s0
  by_cases s6 : 6 < st
  · have ds6 : decide (6 < st) = true := decide_eq_true s6
    have E : Aside (r = false) := ⟨by rw [HR.out]; first | (simp [handB, *]; done) | (simp [handB, *]; omega)⟩
    clear HR
    go_wp2_with fail
    all_goals
      go_ret
      first | exact ⟨ret_bool E.out.symm, HB.out⟩ | (refine ⟨?_, HB.out⟩; rw [E.out]; first | rfl | (simp; done) | (simp [*]; done) | (simp [*]; omega)) | (exfalso; omega) | (exfalso; simp_all; done)
  have ds6 : decide (6 < st) = false := decide_eq_false s6
  by_cases zcalls : calls.size = 0
  · have qcalls := (hs_zero calls).1 zcalls
    subst qcalls
    by_cases zpeer : peer.size = 0
    · have qpeer := (hs_zero peer).1 zpeer
      subst qpeer
      by_cases b0 : both < 0
      · have db0 : decide (both < 0) = true := decide_eq_true b0
        have E : Aside (r = false) := ⟨by rw [HR.out]; first | (simp [handB, *]; done) | (simp [handB, *]; omega)⟩
        clear HR
        go_wp2_with fail
        all_goals
          go_ret
          first | exact ⟨ret_bool E.out.symm, HB.out⟩ | (refine ⟨?_, HB.out⟩; rw [E.out]; first | rfl | (simp; done) | (simp [*]; done) | (simp [*]; omega)) | (exfalso; omega) | (exfalso; simp_all; done)
      have db0 : decide (both < 0) = false := decide_eq_false b0
      by_cases b6 : 65535 < both
      · have db6 : decide (65535 < both) = true := decide_eq_true b6
        have E : Aside (r = false) := ⟨by rw [HR.out]; first | (simp [handB, *]; done) | (simp [handB, *]; omega)⟩
        clear HR
        go_wp2_with fail
        all_goals
          go_ret
          first | exact ⟨ret_bool E.out.symm, HB.out⟩ | (refine ⟨?_, HB.out⟩; rw [E.out]; first | rfl | (simp; done) | (simp [*]; done) | (simp [*]; omega)) | (exfalso; omega) | (exfalso; simp_all; done)
      have db6 : decide (65535 < both) = false := decide_eq_false b6
      have ban := andNot_zero (x := both) (y := flags) (by omega) (by omega) hfl.1 hfl.2
      by_cases ba : bits .and .i64 both flags = both
      rotate_left
      · have bn : ¬ bits .andNot .i64 both flags = 0 := fun e => ba (ban.1 e)
        have bz : ¬ both = 0 := fun e => by subst e; exact ba (and_zero hfl.1 hfl.2)
        clear ban
        have E : Aside (r = false) := ⟨by rw [HR.out]; first | (simp [handB, *]; done) | (simp [handB, *]; omega)⟩
        clear HR
        go_wp2_with fail
        all_goals
          go_ret
          first | exact ⟨ret_bool E.out.symm, HB.out⟩ | (refine ⟨?_, HB.out⟩; rw [E.out]; first | rfl | (simp; done) | (simp [*]; done) | (simp [*]; omega)) | (exfalso; omega) | (exfalso; simp_all; done)
      have bn : bits .andNot .i64 both flags = 0 := ban.2 ba
      clear ban
      by_cases bz : ¬ both = 0
      · have dbz : decide (¬ both = 0) = true := decide_eq_true bz
        have E : Aside (r = false) := ⟨by rw [HR.out]; first | (simp [handB, *]; done) | (simp [handB, *]; omega)⟩
        clear HR
        go_wp2_with fail
        all_goals
          go_ret
          first | exact ⟨ret_bool E.out.symm, HB.out⟩ | (refine ⟨?_, HB.out⟩; rw [E.out]; first | rfl | (simp; done) | (simp [*]; done) | (simp [*]; omega)) | (exfalso; omega) | (exfalso; simp_all; done)
      have dbz : decide (¬ both = 0) = false := decide_eq_false bz
      have bz0 : both = 0 := by omega
      clear bz
      have cs : st = 0 ∨ st = 1 ∨ st = 2 ∨ st = 3 ∨ st = 4 ∨ st = 5 ∨ st = 6 := by omega
      rcases cs with rfl | rfl | rfl | rfl | rfl | rfl | rfl
      · skip
        have E : Aside (r = true) := ⟨by rw [HR.out]; first | (simp [handB, *]; done) | (simp [handB, *]; omega)⟩
        clear HR
        go_wp2_with fail
        all_goals
          go_ret
          first | exact ⟨ret_bool E.out.symm, HB.out⟩ | (refine ⟨?_, HB.out⟩; rw [E.out]; first | rfl | (simp; done) | (simp [*]; done) | (simp [*]; omega)) | (exfalso; omega) | (exfalso; simp_all; done)
      · skip
        have E : Aside (r = true) := ⟨by rw [HR.out]; first | (simp [handB, *]; done) | (simp [handB, *]; omega)⟩
        clear HR
        go_wp2_with fail
        all_goals
          go_ret
          first | exact ⟨ret_bool E.out.symm, HB.out⟩ | (refine ⟨?_, HB.out⟩; rw [E.out]; first | rfl | (simp; done) | (simp [*]; done) | (simp [*]; omega)) | (exfalso; omega) | (exfalso; simp_all; done)
      · skip
        have E : Aside (r = true) := ⟨by rw [HR.out]; first | (simp [handB, *]; done) | (simp [handB, *]; omega)⟩
        clear HR
        go_wp2_with fail
        all_goals
          go_ret
          first | exact ⟨ret_bool E.out.symm, HB.out⟩ | (refine ⟨?_, HB.out⟩; rw [E.out]; first | rfl | (simp; done) | (simp [*]; done) | (simp [*]; omega)) | (exfalso; omega) | (exfalso; simp_all; done)
      · skip
        have E : Aside (r = false) := ⟨by rw [HR.out]; first | (simp [handB, *]; done) | (simp [handB, *]; omega)⟩
        clear HR
        go_wp2_with fail
        all_goals
          go_ret
          first | exact ⟨ret_bool E.out.symm, HB.out⟩ | (refine ⟨?_, HB.out⟩; rw [E.out]; first | rfl | (simp; done) | (simp [*]; done) | (simp [*]; omega)) | (exfalso; omega) | (exfalso; simp_all; done)
      · skip
        have E : Aside (r = false) := ⟨by rw [HR.out]; first | (simp [handB, *]; done) | (simp [handB, *]; omega)⟩
        clear HR
        go_wp2_with fail
        all_goals
          go_ret
          first | exact ⟨ret_bool E.out.symm, HB.out⟩ | (refine ⟨?_, HB.out⟩; rw [E.out]; first | rfl | (simp; done) | (simp [*]; done) | (simp [*]; omega)) | (exfalso; omega) | (exfalso; simp_all; done)
      · skip
        have E : Aside (r = false) := ⟨by rw [HR.out]; first | (simp [handB, *]; done) | (simp [handB, *]; omega)⟩
        clear HR
        go_wp2_with fail
        all_goals
          go_ret
          first | exact ⟨ret_bool E.out.symm, HB.out⟩ | (refine ⟨?_, HB.out⟩; rw [E.out]; first | rfl | (simp; done) | (simp [*]; done) | (simp [*]; omega)) | (exfalso; omega) | (exfalso; simp_all; done)
      · skip
        have E : Aside (r = true) := ⟨by rw [HR.out]; first | (simp [handB, *]; done) | (simp [handB, *]; omega)⟩
        clear HR
        go_wp2_with fail
        all_goals
          go_ret
          first | exact ⟨ret_bool E.out.symm, HB.out⟩ | (refine ⟨?_, HB.out⟩; rw [E.out]; first | rfl | (simp; done) | (simp [*]; done) | (simp [*]; omega)) | (exfalso; omega) | (exfalso; simp_all; done)
    · have qpeer : ¬ peer = ⟨#[]⟩ := fun e => zpeer ((hs_zero peer).2 e)
      have ppeer := hs_full peer zpeer
      go_wp2_with fail
      refine (nameOK peer _ h4).mono ?_
      rintro e w' ⟨rfl, rfl⟩
      cases np : nameB peer
      · skip
        have E : Aside (r = false) := ⟨by rw [HR.out]; first | (simp [handB, *]; done) | (simp [handB, *]; omega)⟩
        clear HR
        go_wp2_with fail
        all_goals
          go_ret
          first | exact ⟨ret_bool E.out.symm, HB.out⟩ | (refine ⟨?_, HB.out⟩; rw [E.out]; first | rfl | (simp; done) | (simp [*]; done) | (simp [*]; omega)) | (exfalso; omega) | (exfalso; simp_all; done)
      by_cases b0 : both < 0
      · have db0 : decide (both < 0) = true := decide_eq_true b0
        have E : Aside (r = false) := ⟨by rw [HR.out]; first | (simp [handB, *]; done) | (simp [handB, *]; omega)⟩
        clear HR
        go_wp2_with fail
        all_goals
          go_ret
          first | exact ⟨ret_bool E.out.symm, HB.out⟩ | (refine ⟨?_, HB.out⟩; rw [E.out]; first | rfl | (simp; done) | (simp [*]; done) | (simp [*]; omega)) | (exfalso; omega) | (exfalso; simp_all; done)
      have db0 : decide (both < 0) = false := decide_eq_false b0
      by_cases b6 : 65535 < both
      · have db6 : decide (65535 < both) = true := decide_eq_true b6
        have E : Aside (r = false) := ⟨by rw [HR.out]; first | (simp [handB, *]; done) | (simp [handB, *]; omega)⟩
        clear HR
        go_wp2_with fail
        all_goals
          go_ret
          first | exact ⟨ret_bool E.out.symm, HB.out⟩ | (refine ⟨?_, HB.out⟩; rw [E.out]; first | rfl | (simp; done) | (simp [*]; done) | (simp [*]; omega)) | (exfalso; omega) | (exfalso; simp_all; done)
      have db6 : decide (65535 < both) = false := decide_eq_false b6
      have ban := andNot_zero (x := both) (y := flags) (by omega) (by omega) hfl.1 hfl.2
      by_cases ba : bits .and .i64 both flags = both
      rotate_left
      · have bn : ¬ bits .andNot .i64 both flags = 0 := fun e => ba (ban.1 e)
        clear ban
        have E : Aside (r = false) := ⟨by rw [HR.out]; first | (simp [handB, *]; done) | (simp [handB, *]; omega)⟩
        clear HR
        go_wp2_with fail
        all_goals
          go_ret
          first | exact ⟨ret_bool E.out.symm, HB.out⟩ | (refine ⟨?_, HB.out⟩; rw [E.out]; first | rfl | (simp; done) | (simp [*]; done) | (simp [*]; omega)) | (exfalso; omega) | (exfalso; simp_all; done)
      have bn : bits .andNot .i64 both flags = 0 := ban.2 ba
      clear ban
      have cs : st = 0 ∨ st = 1 ∨ st = 2 ∨ st = 3 ∨ st = 4 ∨ st = 5 ∨ st = 6 := by omega
      rcases cs with rfl | rfl | rfl | rfl | rfl | rfl | rfl
      · skip
        have E : Aside (r = false) := ⟨by rw [HR.out]; first | (simp [handB, *]; done) | (simp [handB, *]; omega)⟩
        clear HR
        go_wp2_with fail
        all_goals
          go_ret
          first | exact ⟨ret_bool E.out.symm, HB.out⟩ | (refine ⟨?_, HB.out⟩; rw [E.out]; first | rfl | (simp; done) | (simp [*]; done) | (simp [*]; omega)) | (exfalso; omega) | (exfalso; simp_all; done)
      · skip
        have E : Aside (r = false) := ⟨by rw [HR.out]; first | (simp [handB, *]; done) | (simp [handB, *]; omega)⟩
        clear HR
        go_wp2_with fail
        all_goals
          go_ret
          first | exact ⟨ret_bool E.out.symm, HB.out⟩ | (refine ⟨?_, HB.out⟩; rw [E.out]; first | rfl | (simp; done) | (simp [*]; done) | (simp [*]; omega)) | (exfalso; omega) | (exfalso; simp_all; done)
      · skip
        have E : Aside (r = false) := ⟨by rw [HR.out]; first | (simp [handB, *]; done) | (simp [handB, *]; omega)⟩
        clear HR
        go_wp2_with fail
        all_goals
          go_ret
          first | exact ⟨ret_bool E.out.symm, HB.out⟩ | (refine ⟨?_, HB.out⟩; rw [E.out]; first | rfl | (simp; done) | (simp [*]; done) | (simp [*]; omega)) | (exfalso; omega) | (exfalso; simp_all; done)
      · skip
        have E : Aside (r = true) := ⟨by rw [HR.out]; first | (simp [handB, *]; done) | (simp [handB, *]; omega)⟩
        clear HR
        go_wp2_with fail
        all_goals
          go_ret
          first | exact ⟨ret_bool E.out.symm, HB.out⟩ | (refine ⟨?_, HB.out⟩; rw [E.out]; first | rfl | (simp; done) | (simp [*]; done) | (simp [*]; omega)) | (exfalso; omega) | (exfalso; simp_all; done)
      · skip
        have E : Aside (r = true) := ⟨by rw [HR.out]; first | (simp [handB, *]; done) | (simp [handB, *]; omega)⟩
        clear HR
        go_wp2_with fail
        all_goals
          go_ret
          first | exact ⟨ret_bool E.out.symm, HB.out⟩ | (refine ⟨?_, HB.out⟩; rw [E.out]; first | rfl | (simp; done) | (simp [*]; done) | (simp [*]; omega)) | (exfalso; omega) | (exfalso; simp_all; done)
      · skip
        have E : Aside (r = true) := ⟨by rw [HR.out]; first | (simp [handB, *]; done) | (simp [handB, *]; omega)⟩
        clear HR
        go_wp2_with fail
        all_goals
          go_ret
          first | exact ⟨ret_bool E.out.symm, HB.out⟩ | (refine ⟨?_, HB.out⟩; rw [E.out]; first | rfl | (simp; done) | (simp [*]; done) | (simp [*]; omega)) | (exfalso; omega) | (exfalso; simp_all; done)
      · skip
        have E : Aside (r = true) := ⟨by rw [HR.out]; first | (simp [handB, *]; done) | (simp [handB, *]; omega)⟩
        clear HR
        go_wp2_with fail
        all_goals
          go_ret
          first | exact ⟨ret_bool E.out.symm, HB.out⟩ | (refine ⟨?_, HB.out⟩; rw [E.out]; first | rfl | (simp; done) | (simp [*]; done) | (simp [*]; omega)) | (exfalso; omega) | (exfalso; simp_all; done)
  · have qcalls : ¬ calls = ⟨#[]⟩ := fun e => zcalls ((hs_zero calls).2 e)
    have pcalls := hs_full calls zcalls
    go_wp2_with fail
    refine (nameOK calls _ h3).mono ?_
    rintro e w' ⟨rfl, rfl⟩
    cases nc : nameB calls
    · skip
      have E : Aside (r = false) := ⟨by rw [HR.out]; first | (simp [handB, *]; done) | (simp [handB, *]; omega)⟩
      clear HR
      go_wp2_with fail
      all_goals
        go_ret
        first | exact ⟨ret_bool E.out.symm, HB.out⟩ | (refine ⟨?_, HB.out⟩; rw [E.out]; first | rfl | (simp; done) | (simp [*]; done) | (simp [*]; omega)) | (exfalso; omega) | (exfalso; simp_all; done)
    by_cases zpeer : peer.size = 0
    · have qpeer := (hs_zero peer).1 zpeer
      subst qpeer
      by_cases b0 : both < 0
      · have db0 : decide (both < 0) = true := decide_eq_true b0
        have E : Aside (r = false) := ⟨by rw [HR.out]; first | (simp [handB, *]; done) | (simp [handB, *]; omega)⟩
        clear HR
        go_wp2_with fail
        all_goals
          go_ret
          first | exact ⟨ret_bool E.out.symm, HB.out⟩ | (refine ⟨?_, HB.out⟩; rw [E.out]; first | rfl | (simp; done) | (simp [*]; done) | (simp [*]; omega)) | (exfalso; omega) | (exfalso; simp_all; done)
      have db0 : decide (both < 0) = false := decide_eq_false b0
      by_cases b6 : 65535 < both
      · have db6 : decide (65535 < both) = true := decide_eq_true b6
        have E : Aside (r = false) := ⟨by rw [HR.out]; first | (simp [handB, *]; done) | (simp [handB, *]; omega)⟩
        clear HR
        go_wp2_with fail
        all_goals
          go_ret
          first | exact ⟨ret_bool E.out.symm, HB.out⟩ | (refine ⟨?_, HB.out⟩; rw [E.out]; first | rfl | (simp; done) | (simp [*]; done) | (simp [*]; omega)) | (exfalso; omega) | (exfalso; simp_all; done)
      have db6 : decide (65535 < both) = false := decide_eq_false b6
      have ban := andNot_zero (x := both) (y := flags) (by omega) (by omega) hfl.1 hfl.2
      by_cases ba : bits .and .i64 both flags = both
      rotate_left
      · have bn : ¬ bits .andNot .i64 both flags = 0 := fun e => ba (ban.1 e)
        have bz : ¬ both = 0 := fun e => by subst e; exact ba (and_zero hfl.1 hfl.2)
        clear ban
        have E : Aside (r = false) := ⟨by rw [HR.out]; first | (simp [handB, *]; done) | (simp [handB, *]; omega)⟩
        clear HR
        go_wp2_with fail
        all_goals
          go_ret
          first | exact ⟨ret_bool E.out.symm, HB.out⟩ | (refine ⟨?_, HB.out⟩; rw [E.out]; first | rfl | (simp; done) | (simp [*]; done) | (simp [*]; omega)) | (exfalso; omega) | (exfalso; simp_all; done)
      have bn : bits .andNot .i64 both flags = 0 := ban.2 ba
      clear ban
      by_cases bz : ¬ both = 0
      · have dbz : decide (¬ both = 0) = true := decide_eq_true bz
        have E : Aside (r = false) := ⟨by rw [HR.out]; first | (simp [handB, *]; done) | (simp [handB, *]; omega)⟩
        clear HR
        go_wp2_with fail
        all_goals
          go_ret
          first | exact ⟨ret_bool E.out.symm, HB.out⟩ | (refine ⟨?_, HB.out⟩; rw [E.out]; first | rfl | (simp; done) | (simp [*]; done) | (simp [*]; omega)) | (exfalso; omega) | (exfalso; simp_all; done)
      have dbz : decide (¬ both = 0) = false := decide_eq_false bz
      have bz0 : both = 0 := by omega
      clear bz
      have cs : st = 0 ∨ st = 1 ∨ st = 2 ∨ st = 3 ∨ st = 4 ∨ st = 5 ∨ st = 6 := by omega
      rcases cs with rfl | rfl | rfl | rfl | rfl | rfl | rfl
      · skip
        have E : Aside (r = true) := ⟨by rw [HR.out]; first | (simp [handB, *]; done) | (simp [handB, *]; omega)⟩
        clear HR
        go_wp2_with fail
        all_goals
          go_ret
          first | exact ⟨ret_bool E.out.symm, HB.out⟩ | (refine ⟨?_, HB.out⟩; rw [E.out]; first | rfl | (simp; done) | (simp [*]; done) | (simp [*]; omega)) | (exfalso; omega) | (exfalso; simp_all; done)
      · skip
        have E : Aside (r = true) := ⟨by rw [HR.out]; first | (simp [handB, *]; done) | (simp [handB, *]; omega)⟩
        clear HR
        go_wp2_with fail
        all_goals
          go_ret
          first | exact ⟨ret_bool E.out.symm, HB.out⟩ | (refine ⟨?_, HB.out⟩; rw [E.out]; first | rfl | (simp; done) | (simp [*]; done) | (simp [*]; omega)) | (exfalso; omega) | (exfalso; simp_all; done)
      · skip
        have E : Aside (r = true) := ⟨by rw [HR.out]; first | (simp [handB, *]; done) | (simp [handB, *]; omega)⟩
        clear HR
        go_wp2_with fail
        all_goals
          go_ret
          first | exact ⟨ret_bool E.out.symm, HB.out⟩ | (refine ⟨?_, HB.out⟩; rw [E.out]; first | rfl | (simp; done) | (simp [*]; done) | (simp [*]; omega)) | (exfalso; omega) | (exfalso; simp_all; done)
      · skip
        have E : Aside (r = false) := ⟨by rw [HR.out]; first | (simp [handB, *]; done) | (simp [handB, *]; omega)⟩
        clear HR
        go_wp2_with fail
        all_goals
          go_ret
          first | exact ⟨ret_bool E.out.symm, HB.out⟩ | (refine ⟨?_, HB.out⟩; rw [E.out]; first | rfl | (simp; done) | (simp [*]; done) | (simp [*]; omega)) | (exfalso; omega) | (exfalso; simp_all; done)
      · skip
        have E : Aside (r = false) := ⟨by rw [HR.out]; first | (simp [handB, *]; done) | (simp [handB, *]; omega)⟩
        clear HR
        go_wp2_with fail
        all_goals
          go_ret
          first | exact ⟨ret_bool E.out.symm, HB.out⟩ | (refine ⟨?_, HB.out⟩; rw [E.out]; first | rfl | (simp; done) | (simp [*]; done) | (simp [*]; omega)) | (exfalso; omega) | (exfalso; simp_all; done)
      · skip
        have E : Aside (r = false) := ⟨by rw [HR.out]; first | (simp [handB, *]; done) | (simp [handB, *]; omega)⟩
        clear HR
        go_wp2_with fail
        all_goals
          go_ret
          first | exact ⟨ret_bool E.out.symm, HB.out⟩ | (refine ⟨?_, HB.out⟩; rw [E.out]; first | rfl | (simp; done) | (simp [*]; done) | (simp [*]; omega)) | (exfalso; omega) | (exfalso; simp_all; done)
      · skip
        have E : Aside (r = true) := ⟨by rw [HR.out]; first | (simp [handB, *]; done) | (simp [handB, *]; omega)⟩
        clear HR
        go_wp2_with fail
        all_goals
          go_ret
          first | exact ⟨ret_bool E.out.symm, HB.out⟩ | (refine ⟨?_, HB.out⟩; rw [E.out]; first | rfl | (simp; done) | (simp [*]; done) | (simp [*]; omega)) | (exfalso; omega) | (exfalso; simp_all; done)
    · have qpeer : ¬ peer = ⟨#[]⟩ := fun e => zpeer ((hs_zero peer).2 e)
      have ppeer := hs_full peer zpeer
      go_wp2_with fail
      refine (nameOK peer _ h4).mono ?_
      rintro e w' ⟨rfl, rfl⟩
      cases np : nameB peer
      · skip
        have E : Aside (r = false) := ⟨by rw [HR.out]; first | (simp [handB, *]; done) | (simp [handB, *]; omega)⟩
        clear HR
        go_wp2_with fail
        all_goals
          go_ret
          first | exact ⟨ret_bool E.out.symm, HB.out⟩ | (refine ⟨?_, HB.out⟩; rw [E.out]; first | rfl | (simp; done) | (simp [*]; done) | (simp [*]; omega)) | (exfalso; omega) | (exfalso; simp_all; done)
      by_cases b0 : both < 0
      · have db0 : decide (both < 0) = true := decide_eq_true b0
        have E : Aside (r = false) := ⟨by rw [HR.out]; first | (simp [handB, *]; done) | (simp [handB, *]; omega)⟩
        clear HR
        go_wp2_with fail
        all_goals
          go_ret
          first | exact ⟨ret_bool E.out.symm, HB.out⟩ | (refine ⟨?_, HB.out⟩; rw [E.out]; first | rfl | (simp; done) | (simp [*]; done) | (simp [*]; omega)) | (exfalso; omega) | (exfalso; simp_all; done)
      have db0 : decide (both < 0) = false := decide_eq_false b0
      by_cases b6 : 65535 < both
      · have db6 : decide (65535 < both) = true := decide_eq_true b6
        have E : Aside (r = false) := ⟨by rw [HR.out]; first | (simp [handB, *]; done) | (simp [handB, *]; omega)⟩
        clear HR
        go_wp2_with fail
        all_goals
          go_ret
          first | exact ⟨ret_bool E.out.symm, HB.out⟩ | (refine ⟨?_, HB.out⟩; rw [E.out]; first | rfl | (simp; done) | (simp [*]; done) | (simp [*]; omega)) | (exfalso; omega) | (exfalso; simp_all; done)
      have db6 : decide (65535 < both) = false := decide_eq_false b6
      have ban := andNot_zero (x := both) (y := flags) (by omega) (by omega) hfl.1 hfl.2
      by_cases ba : bits .and .i64 both flags = both
      rotate_left
      · have bn : ¬ bits .andNot .i64 both flags = 0 := fun e => ba (ban.1 e)
        clear ban
        have E : Aside (r = false) := ⟨by rw [HR.out]; first | (simp [handB, *]; done) | (simp [handB, *]; omega)⟩
        clear HR
        go_wp2_with fail
        all_goals
          go_ret
          first | exact ⟨ret_bool E.out.symm, HB.out⟩ | (refine ⟨?_, HB.out⟩; rw [E.out]; first | rfl | (simp; done) | (simp [*]; done) | (simp [*]; omega)) | (exfalso; omega) | (exfalso; simp_all; done)
      have bn : bits .andNot .i64 both flags = 0 := ban.2 ba
      clear ban
      have cs : st = 0 ∨ st = 1 ∨ st = 2 ∨ st = 3 ∨ st = 4 ∨ st = 5 ∨ st = 6 := by omega
      rcases cs with rfl | rfl | rfl | rfl | rfl | rfl | rfl
      · skip
        have E : Aside (r = false) := ⟨by rw [HR.out]; first | (simp [handB, *]; done) | (simp [handB, *]; omega)⟩
        clear HR
        go_wp2_with fail
        all_goals
          go_ret
          first | exact ⟨ret_bool E.out.symm, HB.out⟩ | (refine ⟨?_, HB.out⟩; rw [E.out]; first | rfl | (simp; done) | (simp [*]; done) | (simp [*]; omega)) | (exfalso; omega) | (exfalso; simp_all; done)
      · skip
        have E : Aside (r = false) := ⟨by rw [HR.out]; first | (simp [handB, *]; done) | (simp [handB, *]; omega)⟩
        clear HR
        go_wp2_with fail
        all_goals
          go_ret
          first | exact ⟨ret_bool E.out.symm, HB.out⟩ | (refine ⟨?_, HB.out⟩; rw [E.out]; first | rfl | (simp; done) | (simp [*]; done) | (simp [*]; omega)) | (exfalso; omega) | (exfalso; simp_all; done)
      · skip
        have E : Aside (r = false) := ⟨by rw [HR.out]; first | (simp [handB, *]; done) | (simp [handB, *]; omega)⟩
        clear HR
        go_wp2_with fail
        all_goals
          go_ret
          first | exact ⟨ret_bool E.out.symm, HB.out⟩ | (refine ⟨?_, HB.out⟩; rw [E.out]; first | rfl | (simp; done) | (simp [*]; done) | (simp [*]; omega)) | (exfalso; omega) | (exfalso; simp_all; done)
      · skip
        have E : Aside (r = true) := ⟨by rw [HR.out]; first | (simp [handB, *]; done) | (simp [handB, *]; omega)⟩
        clear HR
        go_wp2_with fail
        all_goals
          go_ret
          first | exact ⟨ret_bool E.out.symm, HB.out⟩ | (refine ⟨?_, HB.out⟩; rw [E.out]; first | rfl | (simp; done) | (simp [*]; done) | (simp [*]; omega)) | (exfalso; omega) | (exfalso; simp_all; done)
      · skip
        have E : Aside (r = true) := ⟨by rw [HR.out]; first | (simp [handB, *]; done) | (simp [handB, *]; omega)⟩
        clear HR
        go_wp2_with fail
        all_goals
          go_ret
          first | exact ⟨ret_bool E.out.symm, HB.out⟩ | (refine ⟨?_, HB.out⟩; rw [E.out]; first | rfl | (simp; done) | (simp [*]; done) | (simp [*]; omega)) | (exfalso; omega) | (exfalso; simp_all; done)
      · skip
        have E : Aside (r = true) := ⟨by rw [HR.out]; first | (simp [handB, *]; done) | (simp [handB, *]; omega)⟩
        clear HR
        go_wp2_with fail
        all_goals
          go_ret
          first | exact ⟨ret_bool E.out.symm, HB.out⟩ | (refine ⟨?_, HB.out⟩; rw [E.out]; first | rfl | (simp; done) | (simp [*]; done) | (simp [*]; omega)) | (exfalso; omega) | (exfalso; simp_all; done)
      · skip
        have E : Aside (r = true) := ⟨by rw [HR.out]; first | (simp [handB, *]; done) | (simp [handB, *]; omega)⟩
        clear HR
        go_wp2_with fail
        all_goals
          go_ret
          first | exact ⟨ret_bool E.out.symm, HB.out⟩ | (refine ⟨?_, HB.out⟩; rw [E.out]; first | rfl | (simp; done) | (simp [*]; done) | (simp [*]; omega)) | (exfalso; omega) | (exfalso; simp_all; done)
end Go.Proofs.YtlopbheahedofaaDoor.Fn
