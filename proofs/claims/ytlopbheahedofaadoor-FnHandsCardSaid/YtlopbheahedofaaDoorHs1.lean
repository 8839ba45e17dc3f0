/- Walk of the reference's test of a hand. Conditions: those of each theorem. -/
import Derived.Test.YtlopbheahedofaaDoorHs0
set_option linter.unusedVariables false
namespace Go.Proofs.YtlopbheahedofaaDoor.Fn
open Go Go.RowKit Go.Proofs.YtlopbheahedofaaDoor.Lib Go.Proofs.YtlopbheahedofaaDoor.Plan
set_option maxRecDepth 100000 in
set_option maxHeartbeats 8000000 in
theorem l13Hand (st : Int) (name cookie : ByteArray) (flags mine : Int) (calls peer : ByteArray) (both : Int) (w : World) (h1 : name.size ≤ 9223372036854775807) (h2 : cookie.size ≤ 9223372036854775807) (h3 : calls.size ≤ 9223372036854775807) (h4 : peer.size ≤ 9223372036854775807) :
    Calls Tryd.prog 24 #[.agg #[.int .i64 st, .string name, .string cookie, .int .i64 flags, .int .i64 mine, .string calls, .string peer, .int .i64 both]] w fun e w' => e = .returned (.bool (handB st name cookie flags mine calls peer both)) ∧ Below w.heap.size w w' := by
  obtain ⟨r, hr⟩ : ∃ r, r = handB st name cookie flags mine calls peer both := ⟨_, rfl⟩
  rw [← hr]
  have HR := Aside.mk hr
  clear hr
  go_enter Tryd.func24, Tryd.ntmps24
  go_wp2_with fail
  refine (between st 0 6 _).mono ?_
  rintro e w' ⟨rfl, rfl⟩
  by_cases s : 0 ≤ st ∧ st ≤ 6
  rotate_left
  · rw [show (decide ((0 : Int) ≤ st) && decide (st ≤ 6)) = false by simp; omega]
    have sx : st < 0 ∨ 6 < st := by omega
    have sy : ¬ (0 ≤ st ∧ st ≤ 6) := s
    have E : Aside (r = false) := ⟨by rw [HR.out]; rcases sx with hx | hx <;> first | (simp [handB, baseB, *]; done) | (have hz := Int.not_le.2 hx; simp [handB, baseB, hz])⟩
    clear HR
    go_wp2_with fail
    all_goals
      go_ret
      exact ⟨ret_bool E.out.symm, by go_grown⟩
  rw [show (decide ((0 : Int) ≤ st) && decide (st ≤ 6)) = true by simp; omega]
  obtain ⟨s0, s1⟩ := s
  go_wp2_with fail
  refine (l01Name name _ h1).mono ?_
  rintro e w' ⟨rfl, rfl⟩
  cases nn : nameB name
  · skip
    have E : Aside (r = false) := ⟨by rw [HR.out]; first | (simp [handB, baseB, *]; done) | (simp [handB, baseB, *]; omega) | (simp [handB, baseB, *]; intros; omega)⟩
    clear HR
    go_wp2_with fail
    all_goals
      go_ret
      first | exact ⟨ret_bool E.out.symm, by go_grown⟩ | (refine ⟨?_, by go_grown⟩; rw [E.out]; first | rfl | (simp; done) | (simp [*]; done) | (simp [*]; omega)) | (exfalso; omega) | (exfalso; simp_all; done)
  by_cases ck : (100 : Int) < (cookie.size : Int)
  · have dck : decide ((100 : Int) < (cookie.size : Int)) = true := decide_eq_true ck
    have E : Aside (r = false) := ⟨by rw [HR.out]; first | (simp [handB, baseB, *]; done) | (simp [handB, baseB, *]; omega) | (simp [handB, baseB, *]; intros; omega)⟩
    clear HR
    go_wp2_with fail
    all_goals
      go_ret
      first | exact ⟨ret_bool E.out.symm, by go_grown⟩ | (refine ⟨?_, by go_grown⟩; rw [E.out]; first | rfl | (simp; done) | (simp [*]; done) | (simp [*]; omega)) | (exfalso; omega) | (exfalso; simp_all; done)
  have dck : decide ((100 : Int) < (cookie.size : Int)) = false := decide_eq_false ck
  have ck2 : cookie.size ≤ 100 := by omega
  go_wp2_with fail
  refine (between flags 0 65535 _).mono ?_
  rintro e w' ⟨rfl, rfl⟩
  by_cases fl : 0 ≤ flags ∧ flags ≤ 65535
  rotate_left
  · rw [show (decide ((0 : Int) ≤ flags) && decide (flags ≤ 65535)) = false by simp; omega]
    have flx : flags < 0 ∨ 65535 < flags := by omega
    have fly : ¬ (0 ≤ flags ∧ flags ≤ 65535) := fl
    have E : Aside (r = false) := ⟨by rw [HR.out]; rcases flx with hx | hx <;> first | (simp [handB, baseB, *]; done) | (have hz := Int.not_le.2 hx; simp [handB, baseB, hz])⟩
    clear HR
    go_wp2_with fail
    all_goals
      go_ret
      exact ⟨ret_bool E.out.symm, by go_grown⟩
  rw [show (decide ((0 : Int) ≤ flags) && decide (flags ≤ 65535)) = true by simp; omega]
  obtain ⟨fl0, fl1⟩ := fl
  go_wp2_with fail
  refine (between mine 0 4294967295 _).mono ?_
  rintro e w' ⟨rfl, rfl⟩
  by_cases mi : 0 ≤ mine ∧ mine ≤ 4294967295
  rotate_left
  · rw [show (decide ((0 : Int) ≤ mine) && decide (mine ≤ 4294967295)) = false by simp; omega]
    have mix : mine < 0 ∨ 4294967295 < mine := by omega
    have miy : ¬ (0 ≤ mine ∧ mine ≤ 4294967295) := mi
    have E : Aside (r = false) := ⟨by rw [HR.out]; rcases mix with hx | hx <;> first | (simp [handB, baseB, *]; done) | (have hz := Int.not_le.2 hx; simp [handB, baseB, hz])⟩
    clear HR
    go_wp2_with fail
    all_goals
      go_ret
      exact ⟨ret_bool E.out.symm, by go_grown⟩
  rw [show (decide ((0 : Int) ≤ mine) && decide (mine ≤ 4294967295)) = true by simp; omega]
  obtain ⟨mi0, mi1⟩ := mi
  have hbase : baseB name cookie flags mine = true := by simp [baseB, *]
  by_cases zcalls : calls.size = 0
  · have qcalls := (hs_zero calls).1 zcalls
    subst qcalls
    have cs : st = 0 ∨ st = 1 ∨ st = 2 ∨ st = 3 ∨ st = 4 ∨ st = 5 ∨ st = 6 := by omega
    rcases cs with rfl | rfl | rfl | rfl | rfl | rfl | rfl
    · skip
      by_cases zpeer : peer.size = 0
      · have qpeer := (hs_zero peer).1 zpeer
        subst qpeer
        by_cases bz : both = 0
        · have bz2 : (both == 0) = true := by simpa using bz
          have E : Aside (r = true) := ⟨by rw [HR.out]; first | (simp [handB, baseB, *]; done) | (simp [handB, baseB, *]; omega) | (simp [handB, baseB, *]; intros; omega)⟩
          clear HR
          go_wp2_with fail
          all_goals
            go_ret
            first | exact ⟨ret_bool E.out.symm, by go_grown⟩ | (refine ⟨?_, by go_grown⟩; rw [E.out]; first | rfl | (simp; done) | (simp [*]; done) | (simp [*]; omega)) | (exfalso; omega) | (exfalso; simp_all; done)
        have bz2 : (both == 0) = false := by simpa using bz
        have E : Aside (r = false) := ⟨by rw [HR.out]; first | (simp [handB, baseB, *]; done) | (simp [handB, baseB, *]; omega) | (simp [handB, baseB, *]; intros; omega)⟩
        clear HR
        go_wp2_with fail
        all_goals
          go_ret
          first | exact ⟨ret_bool E.out.symm, by go_grown⟩ | (refine ⟨?_, by go_grown⟩; rw [E.out]; first | rfl | (simp; done) | (simp [*]; done) | (simp [*]; omega)) | (exfalso; omega) | (exfalso; simp_all; done)
      · have qpeer : ¬ peer = ⟨#[]⟩ := fun e => zpeer ((hs_zero peer).2 e)
        have ppeer := hs_full peer zpeer
        have E : Aside (r = false) := ⟨by rw [HR.out]; first | (simp [handB, baseB, *]; done) | (simp [handB, baseB, *]; omega) | (simp [handB, baseB, *]; intros; omega)⟩
        clear HR
        go_wp2_with fail
        all_goals
          go_ret
          first | exact ⟨ret_bool E.out.symm, by go_grown⟩ | (refine ⟨?_, by go_grown⟩; rw [E.out]; first | rfl | (simp; done) | (simp [*]; done) | (simp [*]; omega)) | (exfalso; omega) | (exfalso; simp_all; done)
    · skip
      by_cases zpeer : peer.size = 0
      · have qpeer := (hs_zero peer).1 zpeer
        subst qpeer
        by_cases bz : both = 0
        · have bz2 : (both == 0) = true := by simpa using bz
          have E : Aside (r = true) := ⟨by rw [HR.out]; first | (simp [handB, baseB, *]; done) | (simp [handB, baseB, *]; omega) | (simp [handB, baseB, *]; intros; omega)⟩
          clear HR
          go_wp2_with fail
          all_goals
            go_ret
            first | exact ⟨ret_bool E.out.symm, by go_grown⟩ | (refine ⟨?_, by go_grown⟩; rw [E.out]; first | rfl | (simp; done) | (simp [*]; done) | (simp [*]; omega)) | (exfalso; omega) | (exfalso; simp_all; done)
        have bz2 : (both == 0) = false := by simpa using bz
        have E : Aside (r = false) := ⟨by rw [HR.out]; first | (simp [handB, baseB, *]; done) | (simp [handB, baseB, *]; omega) | (simp [handB, baseB, *]; intros; omega)⟩
        clear HR
        go_wp2_with fail
        all_goals
          go_ret
          first | exact ⟨ret_bool E.out.symm, by go_grown⟩ | (refine ⟨?_, by go_grown⟩; rw [E.out]; first | rfl | (simp; done) | (simp [*]; done) | (simp [*]; omega)) | (exfalso; omega) | (exfalso; simp_all; done)
      · have qpeer : ¬ peer = ⟨#[]⟩ := fun e => zpeer ((hs_zero peer).2 e)
        have ppeer := hs_full peer zpeer
        have E : Aside (r = false) := ⟨by rw [HR.out]; first | (simp [handB, baseB, *]; done) | (simp [handB, baseB, *]; omega) | (simp [handB, baseB, *]; intros; omega)⟩
        clear HR
        go_wp2_with fail
        all_goals
          go_ret
          first | exact ⟨ret_bool E.out.symm, by go_grown⟩ | (refine ⟨?_, by go_grown⟩; rw [E.out]; first | rfl | (simp; done) | (simp [*]; done) | (simp [*]; omega)) | (exfalso; omega) | (exfalso; simp_all; done)
    · skip
      by_cases zpeer : peer.size = 0
      · have qpeer := (hs_zero peer).1 zpeer
        subst qpeer
        by_cases bz : both = 0
        · have bz2 : (both == 0) = true := by simpa using bz
          have E : Aside (r = true) := ⟨by rw [HR.out]; first | (simp [handB, baseB, *]; done) | (simp [handB, baseB, *]; omega) | (simp [handB, baseB, *]; intros; omega)⟩
          clear HR
          go_wp2_with fail
          all_goals
            go_ret
            first | exact ⟨ret_bool E.out.symm, by go_grown⟩ | (refine ⟨?_, by go_grown⟩; rw [E.out]; first | rfl | (simp; done) | (simp [*]; done) | (simp [*]; omega)) | (exfalso; omega) | (exfalso; simp_all; done)
        have bz2 : (both == 0) = false := by simpa using bz
        have E : Aside (r = false) := ⟨by rw [HR.out]; first | (simp [handB, baseB, *]; done) | (simp [handB, baseB, *]; omega) | (simp [handB, baseB, *]; intros; omega)⟩
        clear HR
        go_wp2_with fail
        all_goals
          go_ret
          first | exact ⟨ret_bool E.out.symm, by go_grown⟩ | (refine ⟨?_, by go_grown⟩; rw [E.out]; first | rfl | (simp; done) | (simp [*]; done) | (simp [*]; omega)) | (exfalso; omega) | (exfalso; simp_all; done)
      · have qpeer : ¬ peer = ⟨#[]⟩ := fun e => zpeer ((hs_zero peer).2 e)
        have ppeer := hs_full peer zpeer
        have E : Aside (r = false) := ⟨by rw [HR.out]; first | (simp [handB, baseB, *]; done) | (simp [handB, baseB, *]; omega) | (simp [handB, baseB, *]; intros; omega)⟩
        clear HR
        go_wp2_with fail
        all_goals
          go_ret
          first | exact ⟨ret_bool E.out.symm, by go_grown⟩ | (refine ⟨?_, by go_grown⟩; rw [E.out]; first | rfl | (simp; done) | (simp [*]; done) | (simp [*]; omega)) | (exfalso; omega) | (exfalso; simp_all; done)
    · skip
      by_cases zpeer : peer.size = 0
      · have qpeer := (hs_zero peer).1 zpeer
        subst qpeer
        by_cases bz : both = 0
        · have bz2 : (both == 0) = true := by simpa using bz
          have E : Aside (r = false) := ⟨by rw [HR.out]; first | (simp [handB, baseB, *]; done) | (simp [handB, baseB, *]; omega) | (simp [handB, baseB, *]; intros; omega)⟩
          clear HR
          go_wp2_with fail
          all_goals
            go_ret
            first | exact ⟨ret_bool E.out.symm, by go_grown⟩ | (refine ⟨?_, by go_grown⟩; rw [E.out]; first | rfl | (simp; done) | (simp [*]; done) | (simp [*]; omega)) | (exfalso; omega) | (exfalso; simp_all; done)
        have bz2 : (both == 0) = false := by simpa using bz
        have E : Aside (r = false) := ⟨by rw [HR.out]; first | (simp [handB, baseB, *]; done) | (simp [handB, baseB, *]; omega) | (simp [handB, baseB, *]; intros; omega)⟩
        clear HR
        go_wp2_with fail
        all_goals
          go_ret
          first | exact ⟨ret_bool E.out.symm, by go_grown⟩ | (refine ⟨?_, by go_grown⟩; rw [E.out]; first | rfl | (simp; done) | (simp [*]; done) | (simp [*]; omega)) | (exfalso; omega) | (exfalso; simp_all; done)
      · have qpeer : ¬ peer = ⟨#[]⟩ := fun e => zpeer ((hs_zero peer).2 e)
        have ppeer := hs_full peer zpeer
        go_wp2_with fail
        refine (l01Name peer _ h4).mono ?_
        rintro e w' ⟨rfl, rfl⟩
        cases np : nameB peer
        · skip
          have E : Aside (r = false) := ⟨by rw [HR.out]; first | (simp [handB, baseB, *]; done) | (simp [handB, baseB, *]; omega) | (simp [handB, baseB, *]; intros; omega)⟩
          clear HR
          go_wp2_with fail
          all_goals
            go_ret
            first | exact ⟨ret_bool E.out.symm, by go_grown⟩ | (refine ⟨?_, by go_grown⟩; rw [E.out]; first | rfl | (simp; done) | (simp [*]; done) | (simp [*]; omega)) | (exfalso; omega) | (exfalso; simp_all; done)
        go_wp2_with fail
        refine (between both 0 65535 _).mono ?_
        rintro e w' ⟨rfl, rfl⟩
        by_cases bo : 0 ≤ both ∧ both ≤ 65535
        rotate_left
        · rw [show (decide ((0 : Int) ≤ both) && decide (both ≤ 65535)) = false by simp; omega]
          have box : both < 0 ∨ 65535 < both := by omega
          have boy : ¬ (0 ≤ both ∧ both ≤ 65535) := bo
          have E : Aside (r = false) := ⟨by rw [HR.out]; rcases box with hx | hx <;> first | (simp [handB, baseB, *]; done) | (have hz := Int.not_le.2 hx; simp [handB, baseB, hz])⟩
          clear HR
          go_wp2_with fail
          all_goals
            go_ret
            exact ⟨ret_bool E.out.symm, by go_grown⟩
        rw [show (decide ((0 : Int) ≤ both) && decide (both ≤ 65535)) = true by simp; omega]
        obtain ⟨bo0, bo1⟩ := bo
        by_cases ba : bits .and .i64 both flags = both
        · have ba2 : (bits .and .i64 both flags == both) = true := by simpa using ba
          have E : Aside (r = true) := ⟨by rw [HR.out]; first | (simp [handB, baseB, *]; done) | (simp [handB, baseB, *]; omega) | (simp [handB, baseB, *]; intros; omega)⟩
          clear HR
          go_wp2_with fail
          all_goals
            go_ret
            first | exact ⟨ret_bool E.out.symm, by go_grown⟩ | (refine ⟨?_, by go_grown⟩; rw [E.out]; first | rfl | (simp; done) | (simp [*]; done) | (simp [*]; omega)) | (exfalso; omega) | (exfalso; simp_all; done)
        have ba2 : (bits .and .i64 both flags == both) = false := by simpa using ba
        have E : Aside (r = false) := ⟨by rw [HR.out]; first | (simp [handB, baseB, *]; done) | (simp [handB, baseB, *]; omega) | (simp [handB, baseB, *]; intros; omega)⟩
        clear HR
        go_wp2_with fail
        all_goals
          go_ret
          first | exact ⟨ret_bool E.out.symm, by go_grown⟩ | (refine ⟨?_, by go_grown⟩; rw [E.out]; first | rfl | (simp; done) | (simp [*]; done) | (simp [*]; omega)) | (exfalso; omega) | (exfalso; simp_all; done)
    · skip
      by_cases zpeer : peer.size = 0
      · have qpeer := (hs_zero peer).1 zpeer
        subst qpeer
        by_cases bz : both = 0
        · have bz2 : (both == 0) = true := by simpa using bz
          have E : Aside (r = false) := ⟨by rw [HR.out]; first | (simp [handB, baseB, *]; done) | (simp [handB, baseB, *]; omega) | (simp [handB, baseB, *]; intros; omega)⟩
          clear HR
          go_wp2_with fail
          all_goals
            go_ret
            first | exact ⟨ret_bool E.out.symm, by go_grown⟩ | (refine ⟨?_, by go_grown⟩; rw [E.out]; first | rfl | (simp; done) | (simp [*]; done) | (simp [*]; omega)) | (exfalso; omega) | (exfalso; simp_all; done)
        have bz2 : (both == 0) = false := by simpa using bz
        have E : Aside (r = false) := ⟨by rw [HR.out]; first | (simp [handB, baseB, *]; done) | (simp [handB, baseB, *]; omega) | (simp [handB, baseB, *]; intros; omega)⟩
        clear HR
        go_wp2_with fail
        all_goals
          go_ret
          first | exact ⟨ret_bool E.out.symm, by go_grown⟩ | (refine ⟨?_, by go_grown⟩; rw [E.out]; first | rfl | (simp; done) | (simp [*]; done) | (simp [*]; omega)) | (exfalso; omega) | (exfalso; simp_all; done)
      · have qpeer : ¬ peer = ⟨#[]⟩ := fun e => zpeer ((hs_zero peer).2 e)
        have ppeer := hs_full peer zpeer
        go_wp2_with fail
        refine (l01Name peer _ h4).mono ?_
        rintro e w' ⟨rfl, rfl⟩
        cases np : nameB peer
        · skip
          have E : Aside (r = false) := ⟨by rw [HR.out]; first | (simp [handB, baseB, *]; done) | (simp [handB, baseB, *]; omega) | (simp [handB, baseB, *]; intros; omega)⟩
          clear HR
          go_wp2_with fail
          all_goals
            go_ret
            first | exact ⟨ret_bool E.out.symm, by go_grown⟩ | (refine ⟨?_, by go_grown⟩; rw [E.out]; first | rfl | (simp; done) | (simp [*]; done) | (simp [*]; omega)) | (exfalso; omega) | (exfalso; simp_all; done)
        go_wp2_with fail
        refine (between both 0 65535 _).mono ?_
        rintro e w' ⟨rfl, rfl⟩
        by_cases bo : 0 ≤ both ∧ both ≤ 65535
        rotate_left
        · rw [show (decide ((0 : Int) ≤ both) && decide (both ≤ 65535)) = false by simp; omega]
          have box : both < 0 ∨ 65535 < both := by omega
          have boy : ¬ (0 ≤ both ∧ both ≤ 65535) := bo
          have E : Aside (r = false) := ⟨by rw [HR.out]; rcases box with hx | hx <;> first | (simp [handB, baseB, *]; done) | (have hz := Int.not_le.2 hx; simp [handB, baseB, hz])⟩
          clear HR
          go_wp2_with fail
          all_goals
            go_ret
            exact ⟨ret_bool E.out.symm, by go_grown⟩
        rw [show (decide ((0 : Int) ≤ both) && decide (both ≤ 65535)) = true by simp; omega]
        obtain ⟨bo0, bo1⟩ := bo
        by_cases ba : bits .and .i64 both flags = both
        · have ba2 : (bits .and .i64 both flags == both) = true := by simpa using ba
          have E : Aside (r = true) := ⟨by rw [HR.out]; first | (simp [handB, baseB, *]; done) | (simp [handB, baseB, *]; omega) | (simp [handB, baseB, *]; intros; omega)⟩
          clear HR
          go_wp2_with fail
          all_goals
            go_ret
            first | exact ⟨ret_bool E.out.symm, by go_grown⟩ | (refine ⟨?_, by go_grown⟩; rw [E.out]; first | rfl | (simp; done) | (simp [*]; done) | (simp [*]; omega)) | (exfalso; omega) | (exfalso; simp_all; done)
        have ba2 : (bits .and .i64 both flags == both) = false := by simpa using ba
        have E : Aside (r = false) := ⟨by rw [HR.out]; first | (simp [handB, baseB, *]; done) | (simp [handB, baseB, *]; omega) | (simp [handB, baseB, *]; intros; omega)⟩
        clear HR
        go_wp2_with fail
        all_goals
          go_ret
          first | exact ⟨ret_bool E.out.symm, by go_grown⟩ | (refine ⟨?_, by go_grown⟩; rw [E.out]; first | rfl | (simp; done) | (simp [*]; done) | (simp [*]; omega)) | (exfalso; omega) | (exfalso; simp_all; done)
    · skip
      by_cases zpeer : peer.size = 0
      · have qpeer := (hs_zero peer).1 zpeer
        subst qpeer
        by_cases bz : both = 0
        · have bz2 : (both == 0) = true := by simpa using bz
          have E : Aside (r = false) := ⟨by rw [HR.out]; first | (simp [handB, baseB, *]; done) | (simp [handB, baseB, *]; omega) | (simp [handB, baseB, *]; intros; omega)⟩
          clear HR
          go_wp2_with fail
          all_goals
            go_ret
            first | exact ⟨ret_bool E.out.symm, by go_grown⟩ | (refine ⟨?_, by go_grown⟩; rw [E.out]; first | rfl | (simp; done) | (simp [*]; done) | (simp [*]; omega)) | (exfalso; omega) | (exfalso; simp_all; done)
        have bz2 : (both == 0) = false := by simpa using bz
        have E : Aside (r = false) := ⟨by rw [HR.out]; first | (simp [handB, baseB, *]; done) | (simp [handB, baseB, *]; omega) | (simp [handB, baseB, *]; intros; omega)⟩
        clear HR
        go_wp2_with fail
        all_goals
          go_ret
          first | exact ⟨ret_bool E.out.symm, by go_grown⟩ | (refine ⟨?_, by go_grown⟩; rw [E.out]; first | rfl | (simp; done) | (simp [*]; done) | (simp [*]; omega)) | (exfalso; omega) | (exfalso; simp_all; done)
      · have qpeer : ¬ peer = ⟨#[]⟩ := fun e => zpeer ((hs_zero peer).2 e)
        have ppeer := hs_full peer zpeer
        go_wp2_with fail
        refine (l01Name peer _ h4).mono ?_
        rintro e w' ⟨rfl, rfl⟩
        cases np : nameB peer
        · skip
          have E : Aside (r = false) := ⟨by rw [HR.out]; first | (simp [handB, baseB, *]; done) | (simp [handB, baseB, *]; omega) | (simp [handB, baseB, *]; intros; omega)⟩
          clear HR
          go_wp2_with fail
          all_goals
            go_ret
            first | exact ⟨ret_bool E.out.symm, by go_grown⟩ | (refine ⟨?_, by go_grown⟩; rw [E.out]; first | rfl | (simp; done) | (simp [*]; done) | (simp [*]; omega)) | (exfalso; omega) | (exfalso; simp_all; done)
        go_wp2_with fail
        refine (between both 0 65535 _).mono ?_
        rintro e w' ⟨rfl, rfl⟩
        by_cases bo : 0 ≤ both ∧ both ≤ 65535
        rotate_left
        · rw [show (decide ((0 : Int) ≤ both) && decide (both ≤ 65535)) = false by simp; omega]
          have box : both < 0 ∨ 65535 < both := by omega
          have boy : ¬ (0 ≤ both ∧ both ≤ 65535) := bo
          have E : Aside (r = false) := ⟨by rw [HR.out]; rcases box with hx | hx <;> first | (simp [handB, baseB, *]; done) | (have hz := Int.not_le.2 hx; simp [handB, baseB, hz])⟩
          clear HR
          go_wp2_with fail
          all_goals
            go_ret
            exact ⟨ret_bool E.out.symm, by go_grown⟩
        rw [show (decide ((0 : Int) ≤ both) && decide (both ≤ 65535)) = true by simp; omega]
        obtain ⟨bo0, bo1⟩ := bo
        by_cases ba : bits .and .i64 both flags = both
        · have ba2 : (bits .and .i64 both flags == both) = true := by simpa using ba
          have E : Aside (r = true) := ⟨by rw [HR.out]; first | (simp [handB, baseB, *]; done) | (simp [handB, baseB, *]; omega) | (simp [handB, baseB, *]; intros; omega)⟩
          clear HR
          go_wp2_with fail
          all_goals
            go_ret
            first | exact ⟨ret_bool E.out.symm, by go_grown⟩ | (refine ⟨?_, by go_grown⟩; rw [E.out]; first | rfl | (simp; done) | (simp [*]; done) | (simp [*]; omega)) | (exfalso; omega) | (exfalso; simp_all; done)
        have ba2 : (bits .and .i64 both flags == both) = false := by simpa using ba
        have E : Aside (r = false) := ⟨by rw [HR.out]; first | (simp [handB, baseB, *]; done) | (simp [handB, baseB, *]; omega) | (simp [handB, baseB, *]; intros; omega)⟩
        clear HR
        go_wp2_with fail
        all_goals
          go_ret
          first | exact ⟨ret_bool E.out.symm, by go_grown⟩ | (refine ⟨?_, by go_grown⟩; rw [E.out]; first | rfl | (simp; done) | (simp [*]; done) | (simp [*]; omega)) | (exfalso; omega) | (exfalso; simp_all; done)
    · skip
      by_cases zpeer : peer.size = 0
      · have qpeer := (hs_zero peer).1 zpeer
        subst qpeer
        by_cases bz : both = 0
        · have bz2 : (both == 0) = true := by simpa using bz
          have E : Aside (r = true) := ⟨by rw [HR.out]; first | (simp [handB, baseB, *]; done) | (simp [handB, baseB, *]; omega) | (simp [handB, baseB, *]; intros; omega)⟩
          clear HR
          go_wp2_with fail
          all_goals
            go_ret
            first | exact ⟨ret_bool E.out.symm, by go_grown⟩ | (refine ⟨?_, by go_grown⟩; rw [E.out]; first | rfl | (simp; done) | (simp [*]; done) | (simp [*]; omega)) | (exfalso; omega) | (exfalso; simp_all; done)
        have bz2 : (both == 0) = false := by simpa using bz
        have E : Aside (r = false) := ⟨by rw [HR.out]; first | (simp [handB, baseB, *]; done) | (simp [handB, baseB, *]; omega) | (simp [handB, baseB, *]; intros; omega)⟩
        clear HR
        go_wp2_with fail
        all_goals
          go_ret
          first | exact ⟨ret_bool E.out.symm, by go_grown⟩ | (refine ⟨?_, by go_grown⟩; rw [E.out]; first | rfl | (simp; done) | (simp [*]; done) | (simp [*]; omega)) | (exfalso; omega) | (exfalso; simp_all; done)
      · have qpeer : ¬ peer = ⟨#[]⟩ := fun e => zpeer ((hs_zero peer).2 e)
        have ppeer := hs_full peer zpeer
        go_wp2_with fail
        refine (l01Name peer _ h4).mono ?_
        rintro e w' ⟨rfl, rfl⟩
        cases np : nameB peer
        · skip
          have E : Aside (r = false) := ⟨by rw [HR.out]; first | (simp [handB, baseB, *]; done) | (simp [handB, baseB, *]; omega) | (simp [handB, baseB, *]; intros; omega)⟩
          clear HR
          go_wp2_with fail
          all_goals
            go_ret
            first | exact ⟨ret_bool E.out.symm, by go_grown⟩ | (refine ⟨?_, by go_grown⟩; rw [E.out]; first | rfl | (simp; done) | (simp [*]; done) | (simp [*]; omega)) | (exfalso; omega) | (exfalso; simp_all; done)
        go_wp2_with fail
        refine (between both 0 65535 _).mono ?_
        rintro e w' ⟨rfl, rfl⟩
        by_cases bo : 0 ≤ both ∧ both ≤ 65535
        rotate_left
        · rw [show (decide ((0 : Int) ≤ both) && decide (both ≤ 65535)) = false by simp; omega]
          have box : both < 0 ∨ 65535 < both := by omega
          have boy : ¬ (0 ≤ both ∧ both ≤ 65535) := bo
          have E : Aside (r = false) := ⟨by rw [HR.out]; rcases box with hx | hx <;> first | (simp [handB, baseB, *]; done) | (have hz := Int.not_le.2 hx; simp [handB, baseB, hz])⟩
          clear HR
          go_wp2_with fail
          all_goals
            go_ret
            exact ⟨ret_bool E.out.symm, by go_grown⟩
        rw [show (decide ((0 : Int) ≤ both) && decide (both ≤ 65535)) = true by simp; omega]
        obtain ⟨bo0, bo1⟩ := bo
        by_cases ba : bits .and .i64 both flags = both
        · have ba2 : (bits .and .i64 both flags == both) = true := by simpa using ba
          have E : Aside (r = true) := ⟨by rw [HR.out]; first | (simp [handB, baseB, *]; done) | (simp [handB, baseB, *]; omega) | (simp [handB, baseB, *]; intros; omega)⟩
          clear HR
          go_wp2_with fail
          all_goals
            go_ret
            first | exact ⟨ret_bool E.out.symm, by go_grown⟩ | (refine ⟨?_, by go_grown⟩; rw [E.out]; first | rfl | (simp; done) | (simp [*]; done) | (simp [*]; omega)) | (exfalso; omega) | (exfalso; simp_all; done)
        have ba2 : (bits .and .i64 both flags == both) = false := by simpa using ba
        have E : Aside (r = false) := ⟨by rw [HR.out]; first | (simp [handB, baseB, *]; done) | (simp [handB, baseB, *]; omega) | (simp [handB, baseB, *]; intros; omega)⟩
        clear HR
        go_wp2_with fail
        all_goals
          go_ret
          first | exact ⟨ret_bool E.out.symm, by go_grown⟩ | (refine ⟨?_, by go_grown⟩; rw [E.out]; first | rfl | (simp; done) | (simp [*]; done) | (simp [*]; omega)) | (exfalso; omega) | (exfalso; simp_all; done)
  · have qcalls : ¬ calls = ⟨#[]⟩ := fun e => zcalls ((hs_zero calls).2 e)
    have pcalls := hs_full calls zcalls
    go_wp2_with fail
    refine (l01Name calls _ h3).mono ?_
    rintro e w' ⟨rfl, rfl⟩
    cases nc : nameB calls
    · skip
      have E : Aside (r = false) := ⟨by rw [HR.out]; first | (simp [handB, baseB, *]; done) | (simp [handB, baseB, *]; omega) | (simp [handB, baseB, *]; intros; omega)⟩
      clear HR
      go_wp2_with fail
      all_goals
        go_ret
        first | exact ⟨ret_bool E.out.symm, by go_grown⟩ | (refine ⟨?_, by go_grown⟩; rw [E.out]; first | rfl | (simp; done) | (simp [*]; done) | (simp [*]; omega)) | (exfalso; omega) | (exfalso; simp_all; done)
    have cs : st = 0 ∨ st = 1 ∨ st = 2 ∨ st = 3 ∨ st = 4 ∨ st = 5 ∨ st = 6 := by omega
    rcases cs with rfl | rfl | rfl | rfl | rfl | rfl | rfl
    · skip
      by_cases zpeer : peer.size = 0
      · have qpeer := (hs_zero peer).1 zpeer
        subst qpeer
        by_cases bz : both = 0
        · have bz2 : (both == 0) = true := by simpa using bz
          have E : Aside (r = true) := ⟨by rw [HR.out]; first | (simp [handB, baseB, *]; done) | (simp [handB, baseB, *]; omega) | (simp [handB, baseB, *]; intros; omega)⟩
          clear HR
          go_wp2_with fail
          all_goals
            go_ret
            first | exact ⟨ret_bool E.out.symm, by go_grown⟩ | (refine ⟨?_, by go_grown⟩; rw [E.out]; first | rfl | (simp; done) | (simp [*]; done) | (simp [*]; omega)) | (exfalso; omega) | (exfalso; simp_all; done)
        have bz2 : (both == 0) = false := by simpa using bz
        have E : Aside (r = false) := ⟨by rw [HR.out]; first | (simp [handB, baseB, *]; done) | (simp [handB, baseB, *]; omega) | (simp [handB, baseB, *]; intros; omega)⟩
        clear HR
        go_wp2_with fail
        all_goals
          go_ret
          first | exact ⟨ret_bool E.out.symm, by go_grown⟩ | (refine ⟨?_, by go_grown⟩; rw [E.out]; first | rfl | (simp; done) | (simp [*]; done) | (simp [*]; omega)) | (exfalso; omega) | (exfalso; simp_all; done)
      · have qpeer : ¬ peer = ⟨#[]⟩ := fun e => zpeer ((hs_zero peer).2 e)
        have ppeer := hs_full peer zpeer
        have E : Aside (r = false) := ⟨by rw [HR.out]; first | (simp [handB, baseB, *]; done) | (simp [handB, baseB, *]; omega) | (simp [handB, baseB, *]; intros; omega)⟩
        clear HR
        go_wp2_with fail
        all_goals
          go_ret
          first | exact ⟨ret_bool E.out.symm, by go_grown⟩ | (refine ⟨?_, by go_grown⟩; rw [E.out]; first | rfl | (simp; done) | (simp [*]; done) | (simp [*]; omega)) | (exfalso; omega) | (exfalso; simp_all; done)
    · skip
      by_cases zpeer : peer.size = 0
      · have qpeer := (hs_zero peer).1 zpeer
        subst qpeer
        by_cases bz : both = 0
        · have bz2 : (both == 0) = true := by simpa using bz
          have E : Aside (r = true) := ⟨by rw [HR.out]; first | (simp [handB, baseB, *]; done) | (simp [handB, baseB, *]; omega) | (simp [handB, baseB, *]; intros; omega)⟩
          clear HR
          go_wp2_with fail
          all_goals
            go_ret
            first | exact ⟨ret_bool E.out.symm, by go_grown⟩ | (refine ⟨?_, by go_grown⟩; rw [E.out]; first | rfl | (simp; done) | (simp [*]; done) | (simp [*]; omega)) | (exfalso; omega) | (exfalso; simp_all; done)
        have bz2 : (both == 0) = false := by simpa using bz
        have E : Aside (r = false) := ⟨by rw [HR.out]; first | (simp [handB, baseB, *]; done) | (simp [handB, baseB, *]; omega) | (simp [handB, baseB, *]; intros; omega)⟩
        clear HR
        go_wp2_with fail
        all_goals
          go_ret
          first | exact ⟨ret_bool E.out.symm, by go_grown⟩ | (refine ⟨?_, by go_grown⟩; rw [E.out]; first | rfl | (simp; done) | (simp [*]; done) | (simp [*]; omega)) | (exfalso; omega) | (exfalso; simp_all; done)
      · have qpeer : ¬ peer = ⟨#[]⟩ := fun e => zpeer ((hs_zero peer).2 e)
        have ppeer := hs_full peer zpeer
        have E : Aside (r = false) := ⟨by rw [HR.out]; first | (simp [handB, baseB, *]; done) | (simp [handB, baseB, *]; omega) | (simp [handB, baseB, *]; intros; omega)⟩
        clear HR
        go_wp2_with fail
        all_goals
          go_ret
          first | exact ⟨ret_bool E.out.symm, by go_grown⟩ | (refine ⟨?_, by go_grown⟩; rw [E.out]; first | rfl | (simp; done) | (simp [*]; done) | (simp [*]; omega)) | (exfalso; omega) | (exfalso; simp_all; done)
    · skip
      by_cases zpeer : peer.size = 0
      · have qpeer := (hs_zero peer).1 zpeer
        subst qpeer
        by_cases bz : both = 0
        · have bz2 : (both == 0) = true := by simpa using bz
          have E : Aside (r = true) := ⟨by rw [HR.out]; first | (simp [handB, baseB, *]; done) | (simp [handB, baseB, *]; omega) | (simp [handB, baseB, *]; intros; omega)⟩
          clear HR
          go_wp2_with fail
          all_goals
            go_ret
            first | exact ⟨ret_bool E.out.symm, by go_grown⟩ | (refine ⟨?_, by go_grown⟩; rw [E.out]; first | rfl | (simp; done) | (simp [*]; done) | (simp [*]; omega)) | (exfalso; omega) | (exfalso; simp_all; done)
        have bz2 : (both == 0) = false := by simpa using bz
        have E : Aside (r = false) := ⟨by rw [HR.out]; first | (simp [handB, baseB, *]; done) | (simp [handB, baseB, *]; omega) | (simp [handB, baseB, *]; intros; omega)⟩
        clear HR
        go_wp2_with fail
        all_goals
          go_ret
          first | exact ⟨ret_bool E.out.symm, by go_grown⟩ | (refine ⟨?_, by go_grown⟩; rw [E.out]; first | rfl | (simp; done) | (simp [*]; done) | (simp [*]; omega)) | (exfalso; omega) | (exfalso; simp_all; done)
      · have qpeer : ¬ peer = ⟨#[]⟩ := fun e => zpeer ((hs_zero peer).2 e)
        have ppeer := hs_full peer zpeer
        have E : Aside (r = false) := ⟨by rw [HR.out]; first | (simp [handB, baseB, *]; done) | (simp [handB, baseB, *]; omega) | (simp [handB, baseB, *]; intros; omega)⟩
        clear HR
        go_wp2_with fail
        all_goals
          go_ret
          first | exact ⟨ret_bool E.out.symm, by go_grown⟩ | (refine ⟨?_, by go_grown⟩; rw [E.out]; first | rfl | (simp; done) | (simp [*]; done) | (simp [*]; omega)) | (exfalso; omega) | (exfalso; simp_all; done)
    · skip
      by_cases zpeer : peer.size = 0
      · have qpeer := (hs_zero peer).1 zpeer
        subst qpeer
        by_cases bz : both = 0
        · have bz2 : (both == 0) = true := by simpa using bz
          have E : Aside (r = false) := ⟨by rw [HR.out]; first | (simp [handB, baseB, *]; done) | (simp [handB, baseB, *]; omega) | (simp [handB, baseB, *]; intros; omega)⟩
          clear HR
          go_wp2_with fail
          all_goals
            go_ret
            first | exact ⟨ret_bool E.out.symm, by go_grown⟩ | (refine ⟨?_, by go_grown⟩; rw [E.out]; first | rfl | (simp; done) | (simp [*]; done) | (simp [*]; omega)) | (exfalso; omega) | (exfalso; simp_all; done)
        have bz2 : (both == 0) = false := by simpa using bz
        have E : Aside (r = false) := ⟨by rw [HR.out]; first | (simp [handB, baseB, *]; done) | (simp [handB, baseB, *]; omega) | (simp [handB, baseB, *]; intros; omega)⟩
        clear HR
        go_wp2_with fail
        all_goals
          go_ret
          first | exact ⟨ret_bool E.out.symm, by go_grown⟩ | (refine ⟨?_, by go_grown⟩; rw [E.out]; first | rfl | (simp; done) | (simp [*]; done) | (simp [*]; omega)) | (exfalso; omega) | (exfalso; simp_all; done)
      · have qpeer : ¬ peer = ⟨#[]⟩ := fun e => zpeer ((hs_zero peer).2 e)
        have ppeer := hs_full peer zpeer
        go_wp2_with fail
        refine (l01Name peer _ h4).mono ?_
        rintro e w' ⟨rfl, rfl⟩
        cases np : nameB peer
        · skip
          have E : Aside (r = false) := ⟨by rw [HR.out]; first | (simp [handB, baseB, *]; done) | (simp [handB, baseB, *]; omega) | (simp [handB, baseB, *]; intros; omega)⟩
          clear HR
          go_wp2_with fail
          all_goals
            go_ret
            first | exact ⟨ret_bool E.out.symm, by go_grown⟩ | (refine ⟨?_, by go_grown⟩; rw [E.out]; first | rfl | (simp; done) | (simp [*]; done) | (simp [*]; omega)) | (exfalso; omega) | (exfalso; simp_all; done)
        go_wp2_with fail
        refine (between both 0 65535 _).mono ?_
        rintro e w' ⟨rfl, rfl⟩
        by_cases bo : 0 ≤ both ∧ both ≤ 65535
        rotate_left
        · rw [show (decide ((0 : Int) ≤ both) && decide (both ≤ 65535)) = false by simp; omega]
          have box : both < 0 ∨ 65535 < both := by omega
          have boy : ¬ (0 ≤ both ∧ both ≤ 65535) := bo
          have E : Aside (r = false) := ⟨by rw [HR.out]; rcases box with hx | hx <;> first | (simp [handB, baseB, *]; done) | (have hz := Int.not_le.2 hx; simp [handB, baseB, hz])⟩
          clear HR
          go_wp2_with fail
          all_goals
            go_ret
            exact ⟨ret_bool E.out.symm, by go_grown⟩
        rw [show (decide ((0 : Int) ≤ both) && decide (both ≤ 65535)) = true by simp; omega]
        obtain ⟨bo0, bo1⟩ := bo
        by_cases ba : bits .and .i64 both flags = both
        · have ba2 : (bits .and .i64 both flags == both) = true := by simpa using ba
          have E : Aside (r = true) := ⟨by rw [HR.out]; first | (simp [handB, baseB, *]; done) | (simp [handB, baseB, *]; omega) | (simp [handB, baseB, *]; intros; omega)⟩
          clear HR
          go_wp2_with fail
          all_goals
            go_ret
            first | exact ⟨ret_bool E.out.symm, by go_grown⟩ | (refine ⟨?_, by go_grown⟩; rw [E.out]; first | rfl | (simp; done) | (simp [*]; done) | (simp [*]; omega)) | (exfalso; omega) | (exfalso; simp_all; done)
        have ba2 : (bits .and .i64 both flags == both) = false := by simpa using ba
        have E : Aside (r = false) := ⟨by rw [HR.out]; first | (simp [handB, baseB, *]; done) | (simp [handB, baseB, *]; omega) | (simp [handB, baseB, *]; intros; omega)⟩
        clear HR
        go_wp2_with fail
        all_goals
          go_ret
          first | exact ⟨ret_bool E.out.symm, by go_grown⟩ | (refine ⟨?_, by go_grown⟩; rw [E.out]; first | rfl | (simp; done) | (simp [*]; done) | (simp [*]; omega)) | (exfalso; omega) | (exfalso; simp_all; done)
    · skip
      by_cases zpeer : peer.size = 0
      · have qpeer := (hs_zero peer).1 zpeer
        subst qpeer
        by_cases bz : both = 0
        · have bz2 : (both == 0) = true := by simpa using bz
          have E : Aside (r = false) := ⟨by rw [HR.out]; first | (simp [handB, baseB, *]; done) | (simp [handB, baseB, *]; omega) | (simp [handB, baseB, *]; intros; omega)⟩
          clear HR
          go_wp2_with fail
          all_goals
            go_ret
            first | exact ⟨ret_bool E.out.symm, by go_grown⟩ | (refine ⟨?_, by go_grown⟩; rw [E.out]; first | rfl | (simp; done) | (simp [*]; done) | (simp [*]; omega)) | (exfalso; omega) | (exfalso; simp_all; done)
        have bz2 : (both == 0) = false := by simpa using bz
        have E : Aside (r = false) := ⟨by rw [HR.out]; first | (simp [handB, baseB, *]; done) | (simp [handB, baseB, *]; omega) | (simp [handB, baseB, *]; intros; omega)⟩
        clear HR
        go_wp2_with fail
        all_goals
          go_ret
          first | exact ⟨ret_bool E.out.symm, by go_grown⟩ | (refine ⟨?_, by go_grown⟩; rw [E.out]; first | rfl | (simp; done) | (simp [*]; done) | (simp [*]; omega)) | (exfalso; omega) | (exfalso; simp_all; done)
      · have qpeer : ¬ peer = ⟨#[]⟩ := fun e => zpeer ((hs_zero peer).2 e)
        have ppeer := hs_full peer zpeer
        go_wp2_with fail
        refine (l01Name peer _ h4).mono ?_
        rintro e w' ⟨rfl, rfl⟩
        cases np : nameB peer
        · skip
          have E : Aside (r = false) := ⟨by rw [HR.out]; first | (simp [handB, baseB, *]; done) | (simp [handB, baseB, *]; omega) | (simp [handB, baseB, *]; intros; omega)⟩
          clear HR
          go_wp2_with fail
          all_goals
            go_ret
            first | exact ⟨ret_bool E.out.symm, by go_grown⟩ | (refine ⟨?_, by go_grown⟩; rw [E.out]; first | rfl | (simp; done) | (simp [*]; done) | (simp [*]; omega)) | (exfalso; omega) | (exfalso; simp_all; done)
        go_wp2_with fail
        refine (between both 0 65535 _).mono ?_
        rintro e w' ⟨rfl, rfl⟩
        by_cases bo : 0 ≤ both ∧ both ≤ 65535
        rotate_left
        · rw [show (decide ((0 : Int) ≤ both) && decide (both ≤ 65535)) = false by simp; omega]
          have box : both < 0 ∨ 65535 < both := by omega
          have boy : ¬ (0 ≤ both ∧ both ≤ 65535) := bo
          have E : Aside (r = false) := ⟨by rw [HR.out]; rcases box with hx | hx <;> first | (simp [handB, baseB, *]; done) | (have hz := Int.not_le.2 hx; simp [handB, baseB, hz])⟩
          clear HR
          go_wp2_with fail
          all_goals
            go_ret
            exact ⟨ret_bool E.out.symm, by go_grown⟩
        rw [show (decide ((0 : Int) ≤ both) && decide (both ≤ 65535)) = true by simp; omega]
        obtain ⟨bo0, bo1⟩ := bo
        by_cases ba : bits .and .i64 both flags = both
        · have ba2 : (bits .and .i64 both flags == both) = true := by simpa using ba
          have E : Aside (r = true) := ⟨by rw [HR.out]; first | (simp [handB, baseB, *]; done) | (simp [handB, baseB, *]; omega) | (simp [handB, baseB, *]; intros; omega)⟩
          clear HR
          go_wp2_with fail
          all_goals
            go_ret
            first | exact ⟨ret_bool E.out.symm, by go_grown⟩ | (refine ⟨?_, by go_grown⟩; rw [E.out]; first | rfl | (simp; done) | (simp [*]; done) | (simp [*]; omega)) | (exfalso; omega) | (exfalso; simp_all; done)
        have ba2 : (bits .and .i64 both flags == both) = false := by simpa using ba
        have E : Aside (r = false) := ⟨by rw [HR.out]; first | (simp [handB, baseB, *]; done) | (simp [handB, baseB, *]; omega) | (simp [handB, baseB, *]; intros; omega)⟩
        clear HR
        go_wp2_with fail
        all_goals
          go_ret
          first | exact ⟨ret_bool E.out.symm, by go_grown⟩ | (refine ⟨?_, by go_grown⟩; rw [E.out]; first | rfl | (simp; done) | (simp [*]; done) | (simp [*]; omega)) | (exfalso; omega) | (exfalso; simp_all; done)
    · skip
      by_cases zpeer : peer.size = 0
      · have qpeer := (hs_zero peer).1 zpeer
        subst qpeer
        by_cases bz : both = 0
        · have bz2 : (both == 0) = true := by simpa using bz
          have E : Aside (r = false) := ⟨by rw [HR.out]; first | (simp [handB, baseB, *]; done) | (simp [handB, baseB, *]; omega) | (simp [handB, baseB, *]; intros; omega)⟩
          clear HR
          go_wp2_with fail
          all_goals
            go_ret
            first | exact ⟨ret_bool E.out.symm, by go_grown⟩ | (refine ⟨?_, by go_grown⟩; rw [E.out]; first | rfl | (simp; done) | (simp [*]; done) | (simp [*]; omega)) | (exfalso; omega) | (exfalso; simp_all; done)
        have bz2 : (both == 0) = false := by simpa using bz
        have E : Aside (r = false) := ⟨by rw [HR.out]; first | (simp [handB, baseB, *]; done) | (simp [handB, baseB, *]; omega) | (simp [handB, baseB, *]; intros; omega)⟩
        clear HR
        go_wp2_with fail
        all_goals
          go_ret
          first | exact ⟨ret_bool E.out.symm, by go_grown⟩ | (refine ⟨?_, by go_grown⟩; rw [E.out]; first | rfl | (simp; done) | (simp [*]; done) | (simp [*]; omega)) | (exfalso; omega) | (exfalso; simp_all; done)
      · have qpeer : ¬ peer = ⟨#[]⟩ := fun e => zpeer ((hs_zero peer).2 e)
        have ppeer := hs_full peer zpeer
        go_wp2_with fail
        refine (l01Name peer _ h4).mono ?_
        rintro e w' ⟨rfl, rfl⟩
        cases np : nameB peer
        · skip
          have E : Aside (r = false) := ⟨by rw [HR.out]; first | (simp [handB, baseB, *]; done) | (simp [handB, baseB, *]; omega) | (simp [handB, baseB, *]; intros; omega)⟩
          clear HR
          go_wp2_with fail
          all_goals
            go_ret
            first | exact ⟨ret_bool E.out.symm, by go_grown⟩ | (refine ⟨?_, by go_grown⟩; rw [E.out]; first | rfl | (simp; done) | (simp [*]; done) | (simp [*]; omega)) | (exfalso; omega) | (exfalso; simp_all; done)
        go_wp2_with fail
        refine (between both 0 65535 _).mono ?_
        rintro e w' ⟨rfl, rfl⟩
        by_cases bo : 0 ≤ both ∧ both ≤ 65535
        rotate_left
        · rw [show (decide ((0 : Int) ≤ both) && decide (both ≤ 65535)) = false by simp; omega]
          have box : both < 0 ∨ 65535 < both := by omega
          have boy : ¬ (0 ≤ both ∧ both ≤ 65535) := bo
          have E : Aside (r = false) := ⟨by rw [HR.out]; rcases box with hx | hx <;> first | (simp [handB, baseB, *]; done) | (have hz := Int.not_le.2 hx; simp [handB, baseB, hz])⟩
          clear HR
          go_wp2_with fail
          all_goals
            go_ret
            exact ⟨ret_bool E.out.symm, by go_grown⟩
        rw [show (decide ((0 : Int) ≤ both) && decide (both ≤ 65535)) = true by simp; omega]
        obtain ⟨bo0, bo1⟩ := bo
        by_cases ba : bits .and .i64 both flags = both
        · have ba2 : (bits .and .i64 both flags == both) = true := by simpa using ba
          have E : Aside (r = true) := ⟨by rw [HR.out]; first | (simp [handB, baseB, *]; done) | (simp [handB, baseB, *]; omega) | (simp [handB, baseB, *]; intros; omega)⟩
          clear HR
          go_wp2_with fail
          all_goals
            go_ret
            first | exact ⟨ret_bool E.out.symm, by go_grown⟩ | (refine ⟨?_, by go_grown⟩; rw [E.out]; first | rfl | (simp; done) | (simp [*]; done) | (simp [*]; omega)) | (exfalso; omega) | (exfalso; simp_all; done)
        have ba2 : (bits .and .i64 both flags == both) = false := by simpa using ba
        have E : Aside (r = false) := ⟨by rw [HR.out]; first | (simp [handB, baseB, *]; done) | (simp [handB, baseB, *]; omega) | (simp [handB, baseB, *]; intros; omega)⟩
        clear HR
        go_wp2_with fail
        all_goals
          go_ret
          first | exact ⟨ret_bool E.out.symm, by go_grown⟩ | (refine ⟨?_, by go_grown⟩; rw [E.out]; first | rfl | (simp; done) | (simp [*]; done) | (simp [*]; omega)) | (exfalso; omega) | (exfalso; simp_all; done)
    · skip
      by_cases zpeer : peer.size = 0
      · have qpeer := (hs_zero peer).1 zpeer
        subst qpeer
        by_cases bz : both = 0
        · have bz2 : (both == 0) = true := by simpa using bz
          have E : Aside (r = true) := ⟨by rw [HR.out]; first | (simp [handB, baseB, *]; done) | (simp [handB, baseB, *]; omega) | (simp [handB, baseB, *]; intros; omega)⟩
          clear HR
          go_wp2_with fail
          all_goals
            go_ret
            first | exact ⟨ret_bool E.out.symm, by go_grown⟩ | (refine ⟨?_, by go_grown⟩; rw [E.out]; first | rfl | (simp; done) | (simp [*]; done) | (simp [*]; omega)) | (exfalso; omega) | (exfalso; simp_all; done)
        have bz2 : (both == 0) = false := by simpa using bz
        have E : Aside (r = false) := ⟨by rw [HR.out]; first | (simp [handB, baseB, *]; done) | (simp [handB, baseB, *]; omega) | (simp [handB, baseB, *]; intros; omega)⟩
        clear HR
        go_wp2_with fail
        all_goals
          go_ret
          first | exact ⟨ret_bool E.out.symm, by go_grown⟩ | (refine ⟨?_, by go_grown⟩; rw [E.out]; first | rfl | (simp; done) | (simp [*]; done) | (simp [*]; omega)) | (exfalso; omega) | (exfalso; simp_all; done)
      · have qpeer : ¬ peer = ⟨#[]⟩ := fun e => zpeer ((hs_zero peer).2 e)
        have ppeer := hs_full peer zpeer
        go_wp2_with fail
        refine (l01Name peer _ h4).mono ?_
        rintro e w' ⟨rfl, rfl⟩
        cases np : nameB peer
        · skip
          have E : Aside (r = false) := ⟨by rw [HR.out]; first | (simp [handB, baseB, *]; done) | (simp [handB, baseB, *]; omega) | (simp [handB, baseB, *]; intros; omega)⟩
          clear HR
          go_wp2_with fail
          all_goals
            go_ret
            first | exact ⟨ret_bool E.out.symm, by go_grown⟩ | (refine ⟨?_, by go_grown⟩; rw [E.out]; first | rfl | (simp; done) | (simp [*]; done) | (simp [*]; omega)) | (exfalso; omega) | (exfalso; simp_all; done)
        go_wp2_with fail
        refine (between both 0 65535 _).mono ?_
        rintro e w' ⟨rfl, rfl⟩
        by_cases bo : 0 ≤ both ∧ both ≤ 65535
        rotate_left
        · rw [show (decide ((0 : Int) ≤ both) && decide (both ≤ 65535)) = false by simp; omega]
          have box : both < 0 ∨ 65535 < both := by omega
          have boy : ¬ (0 ≤ both ∧ both ≤ 65535) := bo
          have E : Aside (r = false) := ⟨by rw [HR.out]; rcases box with hx | hx <;> first | (simp [handB, baseB, *]; done) | (have hz := Int.not_le.2 hx; simp [handB, baseB, hz])⟩
          clear HR
          go_wp2_with fail
          all_goals
            go_ret
            exact ⟨ret_bool E.out.symm, by go_grown⟩
        rw [show (decide ((0 : Int) ≤ both) && decide (both ≤ 65535)) = true by simp; omega]
        obtain ⟨bo0, bo1⟩ := bo
        by_cases ba : bits .and .i64 both flags = both
        · have ba2 : (bits .and .i64 both flags == both) = true := by simpa using ba
          have E : Aside (r = true) := ⟨by rw [HR.out]; first | (simp [handB, baseB, *]; done) | (simp [handB, baseB, *]; omega) | (simp [handB, baseB, *]; intros; omega)⟩
          clear HR
          go_wp2_with fail
          all_goals
            go_ret
            first | exact ⟨ret_bool E.out.symm, by go_grown⟩ | (refine ⟨?_, by go_grown⟩; rw [E.out]; first | rfl | (simp; done) | (simp [*]; done) | (simp [*]; omega)) | (exfalso; omega) | (exfalso; simp_all; done)
        have ba2 : (bits .and .i64 both flags == both) = false := by simpa using ba
        have E : Aside (r = false) := ⟨by rw [HR.out]; first | (simp [handB, baseB, *]; done) | (simp [handB, baseB, *]; omega) | (simp [handB, baseB, *]; intros; omega)⟩
        clear HR
        go_wp2_with fail
        all_goals
          go_ret
          first | exact ⟨ret_bool E.out.symm, by go_grown⟩ | (refine ⟨?_, by go_grown⟩; rw [E.out]; first | rfl | (simp; done) | (simp [*]; done) | (simp [*]; omega)) | (exfalso; omega) | (exfalso; simp_all; done)
end Go.Proofs.YtlopbheahedofaaDoor.Fn
