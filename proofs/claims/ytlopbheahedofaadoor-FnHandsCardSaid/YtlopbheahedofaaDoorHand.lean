/- Walks of HandOpen, the reference's and the program's. Conditions: those of each theorem. -/
import Derived.Test.YtlopbheahedofaaDoorBytes
import Derived.Test.YtlopbheahedofaaDoorNames
import Derived.Test.YtlopbheahedofaaDoorPlan
set_option linter.unusedVariables false
namespace Go.Proofs.YtlopbheahedofaaDoor.Fn
open Go.RowKit Go.Proofs.YtlopbheahedofaaDoor.Lib Go.Proofs.YtlopbheahedofaaDoor.Plan

def baseB (name cookie : ByteArray) (flags mine : Int) : Bool := nameB name && decide (cookie.size ≤ 100) && decide (0 ≤ flags) && decide (flags ≤ 65535) && decide (0 ≤ mine) && decide (mine ≤ 4294967295)
set_option maxRecDepth 100000 in
set_option maxHeartbeats 1000000 in
theorem handBase (st : Int) (name cookie : ByteArray) (flags mine : Int) (calls peer : ByteArray) (both : Int) (w : World) (h1 : name.size ≤ 9223372036854775807) (h2 : cookie.size ≤ 9223372036854775807) :
    Calls Tryd.prog 22 #[.agg #[.int .i64 st, .string name, .string cookie, .int .i64 flags, .int .i64 mine, .string calls, .string peer, .int .i64 both]] w
      fun e w' => e = .returned (.bool (baseB name cookie flags mine)) ∧ Below w.heap.size w w' := by
  cases hn : nameB name
  · have HN := Aside.mk hn
    clear hn
    go_enter Tryd.func22, Tryd.ntmps22
    go_wp2_with fail
    refine (nameOK name _ h1).mono ?_
    rintro e w' ⟨rfl, rfl⟩
    rw [HN.out]
    go_wp2
    go_ret
    exact ⟨ret_bool (by rw [baseB, HN.out]; rfl), (Below.refl _ _).alloc (Nat.le_refl _) _⟩
  · have HN := Aside.mk hn
    clear hn
    have key : (¬ cookie.size ≤ 100) ∨ (cookie.size ≤ 100 ∧ ¬ 0 ≤ flags) ∨ (cookie.size ≤ 100 ∧ 0 ≤ flags ∧ ¬ flags ≤ 65535) ∨ (cookie.size ≤ 100 ∧ 0 ≤ flags ∧ flags ≤ 65535 ∧ ¬ 0 ≤ mine) ∨ (cookie.size ≤ 100 ∧ 0 ≤ flags ∧ flags ≤ 65535 ∧ 0 ≤ mine) := by omega
    rcases key with k1 | ⟨k1, k2⟩ | ⟨k1, k2, k3⟩ | ⟨k1, k2, k3, k4⟩ | ⟨k1, k2, k3, k4⟩
    · have d1 := decide_eq_false k1
      go_enter Tryd.func22, Tryd.ntmps22
      go_wp2_with fail
      refine (nameOK name _ h1).mono ?_
      rintro e w' ⟨rfl, rfl⟩
      rw [HN.out]
      go_wp2
      go_ret
      exact ⟨ret_bool (by rw [baseB, HN.out, d1]; rfl), (Below.refl _ _).alloc (Nat.le_refl _) _⟩
    · have d1 := decide_eq_true k1
      have d2 := decide_eq_false k2
      go_enter Tryd.func22, Tryd.ntmps22
      go_wp2_with fail
      refine (nameOK name _ h1).mono ?_
      rintro e w' ⟨rfl, rfl⟩
      rw [HN.out]
      go_wp2
      go_ret
      exact ⟨ret_bool (by rw [baseB, HN.out, d1, d2]; rfl), (Below.refl _ _).alloc (Nat.le_refl _) _⟩
    · have d1 := decide_eq_true k1
      have d2 := decide_eq_true k2
      have d3 := decide_eq_false k3
      go_enter Tryd.func22, Tryd.ntmps22
      go_wp2_with fail
      refine (nameOK name _ h1).mono ?_
      rintro e w' ⟨rfl, rfl⟩
      rw [HN.out]
      go_wp2
      go_ret
      exact ⟨ret_bool (by rw [baseB, HN.out, d1, d2, d3]; rfl), (Below.refl _ _).alloc (Nat.le_refl _) _⟩
    · have d1 := decide_eq_true k1
      have d2 := decide_eq_true k2
      have d3 := decide_eq_true k3
      have d4 := decide_eq_false k4
      go_enter Tryd.func22, Tryd.ntmps22
      go_wp2_with fail
      refine (nameOK name _ h1).mono ?_
      rintro e w' ⟨rfl, rfl⟩
      rw [HN.out]
      go_wp2
      go_ret
      exact ⟨ret_bool (by rw [baseB, HN.out, d1, d2, d3, d4]; rfl), (Below.refl _ _).alloc (Nat.le_refl _) _⟩
    · have d1 := decide_eq_true k1
      have d2 := decide_eq_true k2
      have d3 := decide_eq_true k3
      have d4 := decide_eq_true k4
      go_enter Tryd.func22, Tryd.ntmps22
      go_wp2_with fail
      refine (nameOK name _ h1).mono ?_
      rintro e w' ⟨rfl, rfl⟩
      rw [HN.out]
      go_wp2
      go_ret
      exact ⟨ret_bool (by rw [baseB, HN.out, d1, d2, d3, d4]; rfl), (Below.refl _ _).alloc (Nat.le_refl _) _⟩
/-- A hand that has just been opened. -/
theorem l13Hand_open (name cookie : ByteArray) (flags mine : Int) (w : World) (h1 : name.size ≤ 9223372036854775807) (h2 : cookie.size ≤ 9223372036854775807) :
    Calls Tryd.prog 24 #[.agg #[.int .i64 1, .string name, .string cookie, .int .i64 flags, .int .i64 mine, .string ⟨#[]⟩, .string ⟨#[]⟩, .int .i64 0]] w
      fun e w' => e = .returned (.bool (baseB name cookie flags mine)) ∧ Below w.heap.size w w' := by
  cases hn : nameB name
  · have HN := Aside.mk hn
    clear hn
    go_enter Tryd.func24, Tryd.ntmps24
    go_wp2_with fail
    refine (between 1 0 6 _).mono ?_
    rintro e w' ⟨rfl, rfl⟩
    go_wp2_with fail
    refine (l01Name name _ h1).mono ?_
    rintro e w' ⟨rfl, rfl⟩
    rw [HN.out]
    go_wp2
    go_ret
    exact ⟨ret_bool (by rw [baseB, HN.out]; rfl), (Below.refl _ _).alloc (Nat.le_refl _) _⟩
  · have HN := Aside.mk hn
    clear hn
    by_cases k1 : cookie.size ≤ 100
    · have d1 := decide_eq_false (show ¬ 100 < cookie.size by omega)
      have D1 := Aside.mk (decide_eq_true k1)
      cases hf : (decide (0 ≤ flags) && decide (flags ≤ 65535))
      · have HF := Aside.mk hf
        clear hf
        go_enter Tryd.func24, Tryd.ntmps24
        go_wp2_with fail
        refine (between 1 0 6 _).mono ?_
        rintro e w' ⟨rfl, rfl⟩
        go_wp2_with fail
        refine (l01Name name _ h1).mono ?_
        rintro e w' ⟨rfl, rfl⟩
        rw [HN.out]
        go_wp2_with fail
        refine (between flags 0 65535 _).mono ?_
        rintro e w' ⟨rfl, rfl⟩
        rw [HF.out]
        go_wp2
        go_ret
        exact ⟨ret_bool (by rw [baseB, HN.out, D1.out, Bool.and_assoc (true && true), HF.out]; rfl), (Below.refl _ _).alloc (Nat.le_refl _) _⟩
      · have HF := Aside.mk hf
        clear hf
        cases hm : (decide (0 ≤ mine) && decide (mine ≤ 4294967295))
        · have HM := Aside.mk hm
          clear hm
          go_enter Tryd.func24, Tryd.ntmps24
          go_wp2_with fail
          refine (between 1 0 6 _).mono ?_
          rintro e w' ⟨rfl, rfl⟩
          go_wp2_with fail
          refine (l01Name name _ h1).mono ?_
          rintro e w' ⟨rfl, rfl⟩
          rw [HN.out]
          go_wp2_with fail
          refine (between flags 0 65535 _).mono ?_
          rintro e w' ⟨rfl, rfl⟩
          rw [HF.out]
          go_wp2_with fail
          refine (between mine 0 4294967295 _).mono ?_
          rintro e w' ⟨rfl, rfl⟩
          rw [HM.out]
          go_wp2
          go_ret
          exact ⟨ret_bool (by rw [baseB, HN.out, D1.out, Bool.and_assoc (true && true), HF.out, Bool.and_assoc, HM.out]; rfl), (Below.refl _ _).alloc (Nat.le_refl _) _⟩
        · have HM := Aside.mk hm
          clear hm
          go_enter Tryd.func24, Tryd.ntmps24
          go_wp2_with fail
          refine (between 1 0 6 _).mono ?_
          rintro e w' ⟨rfl, rfl⟩
          go_wp2_with fail
          refine (l01Name name _ h1).mono ?_
          rintro e w' ⟨rfl, rfl⟩
          rw [HN.out]
          go_wp2_with fail
          refine (between flags 0 65535 _).mono ?_
          rintro e w' ⟨rfl, rfl⟩
          rw [HF.out]
          go_wp2_with fail
          refine (between mine 0 4294967295 _).mono ?_
          rintro e w' ⟨rfl, rfl⟩
          rw [HM.out]
          go_wp2
          go_ret
          exact ⟨ret_bool (by rw [baseB, HN.out, D1.out, Bool.and_assoc (true && true), HF.out, Bool.and_assoc, HM.out]; rfl), (Below.refl _ _).alloc (Nat.le_refl _) _⟩
    · have d1 := decide_eq_true (show 100 < cookie.size by omega)
      have D1 := Aside.mk (decide_eq_false k1)
      go_enter Tryd.func24, Tryd.ntmps24
      go_wp2_with fail
      refine (between 1 0 6 _).mono ?_
      rintro e w' ⟨rfl, rfl⟩
      go_wp2_with fail
      refine (l01Name name _ h1).mono ?_
      rintro e w' ⟨rfl, rfl⟩
      rw [HN.out]
      go_wp2
      go_ret
      exact ⟨ret_bool (by rw [baseB, HN.out, D1.out]; rfl), (Below.refl _ _).alloc (Nat.le_refl _) _⟩
def opened0 : List Value := [.int .i64 0, .string ⟨#[]⟩, .string ⟨#[]⟩, .int .i64 0, .int .i64 0, .string ⟨#[]⟩, .string ⟨#[]⟩, .int .i64 0]
def opened1 (name cookie : ByteArray) (flags mine : Int) : List Value := [.int .i64 1, .string name, .string cookie, .int .i64 flags, .int .i64 mine, .string ⟨#[]⟩, .string ⟨#[]⟩, .int .i64 0]
def openV (name cookie : ByteArray) (flags mine : Int) : Value :=
  if baseB name cookie flags mine = true then .tuple #[.agg (opened1 name cookie flags mine).toArray, .string ((⟨#[78]⟩ ++ bes 2 flags) ++ name), .int .i64 0]
  else .tuple #[.agg opened0.toArray, .string ⟨#[]⟩, .int .i64 1]
set_option maxRecDepth 100000 in
set_option maxHeartbeats 1000000 in
theorem iHandOpen (name cookie : ByteArray) (flags mine : Int) (w : World) (h1 : name.size ≤ 140737488355328) (h2 : cookie.size ≤ 140737488355328) :
    Calls Tryd.prog 7 #[.string name, .string cookie, .int .i64 flags, .int .i64 mine] w fun e w' => e = .returned (openV name cookie flags mine) ∧ Below w.heap.size w w' := by
  cases hb : baseB name cookie flags mine
  · have HB := Aside.mk hb
    have HV := Aside.mk (show openV name cookie flags mine = _ from if_neg (by rw [hb]; simp))
    clear hb
    go_enter Tryd.func7, Tryd.ntmps7
    go_wp2_with fail
    refine (handBase 1 name cookie flags mine ⟨#[]⟩ ⟨#[]⟩ 0 _ (by omega) (by omega)).mono ?_
    rintro e w1 ⟨rfl, hb1⟩
    rw [HB.out]
    have K0 := Aside.mk (((Blk.new w 27 opened0).alloc (.cells (opened1 name cookie flags mine).toArray 27)).below hb1)
    have B1 := Aside.mk (below_later (((Below.refl w.heap.size w).alloc (Nat.le_refl _) _).alloc (by simp) _) hb1)
    clear hb1
    go_wp2_with (refine wpList_store_blk rfl 27 _ _ rfl w.heap.size opened0 rfl rfl 27 opened0 K0.out (by kernel_rfl) rfl rfl ?_; intro w2 k2 hg2; have K2 := Aside.mk k2; have B2 := Aside.mk (below_grown B1.out hg2 (Nat.le_refl _)); clear k2 hg2)
    refine bodyPost_ret (res_ctt rfl _ _ w.heap.size 27 opened0 _ rfl K2.out Tryd.underlying27 rfl (by kernel_rfl)) rfl ⟨by rw [HV.out]; rfl, B2.out⟩
  · have HB := Aside.mk hb
    have HV := Aside.mk (show openV name cookie flags mine = _ from if_pos hb)
    have hr : 0 ≤ flags ∧ flags ≤ 65535 := by
      unfold baseB at hb
      simp at hb
      omega
    obtain ⟨f0, f1⟩ := hr
    clear hb
    go_enter Tryd.func7, Tryd.ntmps7
    go_wp2_with fail
    refine (handBase 1 name cookie flags mine ⟨#[]⟩ ⟨#[]⟩ 0 _ (by omega) (by omega)).mono ?_
    rintro e w1 ⟨rfl, hb1⟩
    rw [HB.out]
    have K1 : Aside (Blk w1 (w.heap.size + 1) 27 (opened1 name cookie flags mine)) := ⟨by rw [← World.size_alloc w]; exact (Blk.new (w.alloc (.cells opened0.toArray 27)) 27 (opened1 name cookie flags mine)).below hb1⟩
    have K0 := Aside.mk (((Blk.new w 27 opened0).alloc (.cells (opened1 name cookie flags mine).toArray 27)).below hb1)
    have B1 := Aside.mk (below_later (((Below.refl w.heap.size w).alloc (Nat.le_refl _) _).alloc (by simp) _) hb1)
    clear hb1
    have hbf := bes_size 2 flags
    have hadd : ∀ wx, (Op.stringOp .add (⟨#[78]⟩ ++ bes 2 flags) name).run Tryd.prog wx = .ok (.string ((⟨#[78]⟩ ++ bes 2 flags) ++ name)) wx := fun wx => run_string_add_sum (w := wx) _ _ (by rw [ByteArray.size_append, hbf]; change 1 + 2 + name.size ≤ _; omega)
    go_wp2_with fail
    refine region_all [(0, true), (1, true), (4, true), (2, false), (3, true), (5, true), (6, false), (7, true), (8, true)] (fun w' => Blk w' (w.heap.size + 1) 27 (opened1 name cookie flags mine)) (by kernel_rfl) (by kernel_rfl) (fun _ _ d _ _ h => by cases d <;> exact h) K1.out.drew ?_
    refine plan_load_blk rfl rfl 27 _ rfl (w.heap.size + 1) (opened1 name cookie flags mine) rfl 27 _ (fun _ hS => hS) Tryd.underlying27 rfl (by kernel_rfl) ?_
    refine plan_yields ?_ rfl rfl (fun w' hS => ?_) ?_
    rotate_left
    · go_simp
      rfl
    refine plan_yields ?_ rfl rfl (fun w' hS => ?_) ?_
    rotate_left
    · go_simp
      rfl
    refine plan_effect rfl rfl (fun K hK => ?_)
    go_simp
    refine (bytesOf flags 2 _ f0 (by omega) (by omega)).mono ?_
    rintro e w2 ⟨rfl, hb2⟩
    have K2 := Aside.mk (K1.out.drew.below hb2)
    have K3 := Aside.mk (K0.out.drew.below hb2)
    have B2 := Aside.mk (below_later B1.out.drew hb2)
    refine hK _ _ K2.out ?_
    clear hK K hb2
    refine plan_yields ?_ rfl rfl (fun w' hS => ?_) ?_
    rotate_left
    · go_simp
      rfl
    refine plan_yields ?_ rfl rfl (fun w' hS => ?_) ?_
    rotate_left
    · go_simp
      rfl
    refine plan_store_blk rfl rfl 27 _ _ rfl w.heap.size (opened1 name cookie flags mine) rfl rfl 27 opened0 K3.out (by kernel_rfl) rfl rfl (fun w3 k3 hg3 => ⟨K2.out.grown hg3 (by intro e; injection e with e; omega), ?_⟩)
    have K4 := Aside.mk k3
    have B3 := Aside.mk (below_grown B2.out hg3 (Nat.le_refl _))
    clear k3 hg3
    refine plan_yields ?_ rfl rfl (fun w' hS => ?_) ?_
    rotate_left
    · go_simp
      rfl
    refine plan_yields ?_ rfl rfl (fun w' hS => ?_) ?_
    rotate_left
    · go_simp
      rfl
    refine plan_end ?_
    go_wp2_with fail
    refine bodyPost_ret (res_ctt rfl _ _ w.heap.size 27 (opened1 name cookie flags mine) _ rfl K4.out Tryd.underlying27 rfl (by kernel_rfl)) rfl ⟨by rw [HV.out]; rfl, B3.out⟩
set_option maxRecDepth 100000 in
set_option maxHeartbeats 1000000 in
theorem sHandOpen (name cookie : ByteArray) (flags mine : Int) (w : World) (h1 : name.size ≤ 140737488355328) (h2 : cookie.size ≤ 140737488355328) :
    Calls Tryd.prog 8 #[.string name, .string cookie, .int .i64 flags, .int .i64 mine] w fun e w' => e = .returned (openV name cookie flags mine) ∧ Below w.heap.size w w' := by
  cases hb : baseB name cookie flags mine
  · have HB := Aside.mk hb
    have HV := Aside.mk (show openV name cookie flags mine = _ from if_neg (by rw [hb]; simp))
    clear hb
    go_enter Tryd.func8, Tryd.ntmps8
    go_wp2_with fail
    refine (l13Hand_open name cookie flags mine _ (by omega) (by omega)).mono ?_
    rintro e w1 ⟨rfl, hb1⟩
    rw [HB.out]
    have K0 := Aside.mk (((Blk.new w 27 opened0).alloc (.cells (opened1 name cookie flags mine).toArray 27)).below hb1)
    have B1 := Aside.mk (below_later (((Below.refl w.heap.size w).alloc (Nat.le_refl _) _).alloc (by simp) _) hb1)
    clear hb1
    go_wp2_with (refine wpList_store_blk rfl 27 _ _ rfl w.heap.size opened0 rfl rfl 27 opened0 K0.out (by kernel_rfl) rfl rfl ?_; intro w2 k2 hg2; have K2 := Aside.mk k2; have B2 := Aside.mk (below_grown B1.out hg2 (Nat.le_refl _)); clear k2 hg2)
    refine bodyPost_ret (res_ctt rfl _ _ w.heap.size 27 opened0 _ rfl K2.out Tryd.underlying27 rfl (by kernel_rfl)) rfl ⟨by rw [HV.out]; rfl, B2.out⟩
  · have HB := Aside.mk hb
    have HV := Aside.mk (show openV name cookie flags mine = _ from if_pos hb)
    have hr : 0 ≤ flags ∧ flags ≤ 65535 := by
      unfold baseB at hb
      simp at hb
      omega
    obtain ⟨f0, f1⟩ := hr
    clear hb
    go_enter Tryd.func8, Tryd.ntmps8
    go_wp2_with fail
    refine (l13Hand_open name cookie flags mine _ (by omega) (by omega)).mono ?_
    rintro e w1 ⟨rfl, hb1⟩
    rw [HB.out]
    have K1 : Aside (Blk w1 (w.heap.size + 1) 27 (opened1 name cookie flags mine)) := ⟨by rw [← World.size_alloc w]; exact (Blk.new (w.alloc (.cells opened0.toArray 27)) 27 (opened1 name cookie flags mine)).below hb1⟩
    have K0 := Aside.mk (((Blk.new w 27 opened0).alloc (.cells (opened1 name cookie flags mine).toArray 27)).below hb1)
    have B1 := Aside.mk (below_later (((Below.refl w.heap.size w).alloc (Nat.le_refl _) _).alloc (by simp) _) hb1)
    clear hb1
    have hbf := bes_size 2 flags
    have hadd : ∀ wx, (Op.stringOp .add (⟨#[78]⟩ ++ bes 2 flags) name).run Tryd.prog wx = .ok (.string ((⟨#[78]⟩ ++ bes 2 flags) ++ name)) wx := fun wx => run_string_add_sum (w := wx) _ _ (by rw [ByteArray.size_append, hbf]; change 1 + 2 + name.size ≤ _; omega)
    go_wp2_with fail
    refine region_all [(0, true), (1, true), (4, true), (2, false), (3, true), (5, true), (6, false), (7, true), (8, true)] (fun w' => Blk w' (w.heap.size + 1) 27 (opened1 name cookie flags mine)) (by kernel_rfl) (by kernel_rfl) (fun _ _ d _ _ h => by cases d <;> exact h) K1.out.drew ?_
    refine plan_load_blk rfl rfl 27 _ rfl (w.heap.size + 1) (opened1 name cookie flags mine) rfl 27 _ (fun _ hS => hS) Tryd.underlying27 rfl (by kernel_rfl) ?_
    refine plan_yields ?_ rfl rfl (fun w' hS => ?_) ?_
    rotate_left
    · go_simp
      rfl
    refine plan_yields ?_ rfl rfl (fun w' hS => ?_) ?_
    rotate_left
    · go_simp
      rfl
    refine plan_effect rfl rfl (fun K hK => ?_)
    go_simp
    refine (l01Bytes flags 2 _ f0 (by omega) (by omega)).mono ?_
    rintro e w2 ⟨rfl, hb2⟩
    have K2 := Aside.mk (K1.out.drew.below hb2)
    have K3 := Aside.mk (K0.out.drew.below hb2)
    have B2 := Aside.mk (below_later B1.out.drew hb2)
    refine hK _ _ K2.out ?_
    clear hK K hb2
    refine plan_yields ?_ rfl rfl (fun w' hS => ?_) ?_
    rotate_left
    · go_simp
      rfl
    refine plan_yields ?_ rfl rfl (fun w' hS => ?_) ?_
    rotate_left
    · go_simp
      rfl
    refine plan_store_blk rfl rfl 27 _ _ rfl w.heap.size (opened1 name cookie flags mine) rfl rfl 27 opened0 K3.out (by kernel_rfl) rfl rfl (fun w3 k3 hg3 => ⟨K2.out.grown hg3 (by intro e; injection e with e; omega), ?_⟩)
    have K4 := Aside.mk k3
    have B3 := Aside.mk (below_grown B2.out hg3 (Nat.le_refl _))
    clear k3 hg3
    refine plan_yields ?_ rfl rfl (fun w' hS => ?_) ?_
    rotate_left
    · go_simp
      rfl
    refine plan_yields ?_ rfl rfl (fun w' hS => ?_) ?_
    rotate_left
    · go_simp
      rfl
    refine plan_end ?_
    go_wp2_with fail
    refine bodyPost_ret (res_ctt rfl _ _ w.heap.size 27 (opened1 name cookie flags mine) _ rfl K4.out Tryd.underlying27 rfl (by kernel_rfl)) rfl ⟨by rw [HV.out]; rfl, B3.out⟩
end Go.Proofs.YtlopbheahedofaaDoor.Fn
