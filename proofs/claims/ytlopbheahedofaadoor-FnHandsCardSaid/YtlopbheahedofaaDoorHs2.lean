/- Walks of a heard text's reader: hear, name, fine. Conditions: those of each theorem. -/
import Derived.Test.YtlopbheahedofaaDoorUnseal
import Derived.Test.YtlopbheahedofaaDoorNames
import Derived.Test.YtlopbheahedofaaDoorEnv
set_option linter.unusedVariables false
namespace Go.Proofs.YtlopbheahedofaaDoor.Fn
open Go Go.RowKit Go.Proofs.YtlopbheahedofaaDoor.Lib Go.Proofs.YtlopbheahedofaaDoor.Plan
attribute [local go_sem] look_tmp look_const look_func look_global lookT_nil lookT_hit lookT_miss

/-- The first byte of a text is this one. -/
def headIs (data : ByteArray) (c : UInt8) : Bool := decide (0 < data.size) && decide (data[0]! = c)
theorem hs_ext {a b : ByteArray} (h : a.data.toList = b.data.toList) : a = b := by
  obtain ⟨⟨a⟩⟩ := a
  obtain ⟨⟨b⟩⟩ := b
  simpa using h
theorem one_text (data : ByteArray) (c : UInt8) (h : 0 < data.size) : data.extract 0 1 = ⟨#[c]⟩ ↔ data[0]! = c := by
  have e : (data.extract 0 1).data.toList = [data[0]!] := by
    rw [ext_toList]
    have hl : 0 < data.data.toList.length := by simpa using h
    rw [List.drop_zero, List.take_succ_eq_append_getElem hl, List.take_zero, List.nil_append]
    rw [getElem!_pos data 0 h]
    rfl
  constructor
  · intro hh
    have h2 : (data.extract 0 1).data.toList = [c] := by rw [hh]
    rw [e] at h2
    injection h2
  · intro hh
    have h2 : (data.extract 0 1).data.toList = [c] := by rw [e, hh]
    exact hs_ext h2
/-- A heard text's reader behind its first byte. -/
def HearOK (w w' : World) (data : ByteArray) (c : UInt8) : Prop := ∃ (k : Nat) (b : Bool), Blk w' w.heap.size 65 [.string data, .int .i64 k, .bool b, .int .i64 0, .nilFunc] ∧ k ≤ data.size ∧ ((b = false ∧ k = 1 ∧ headIs data c = true) ∨ (b = true ∧ headIs data c = false))
set_option maxRecDepth 100000 in
set_option maxHeartbeats 2000000 in
theorem hear (data : ByteArray) (c : UInt8) (w : World) (hd : data.size ≤ 1048576) :
    Calls Tryd.prog 36 #[.string data, .string ⟨#[c]⟩] w fun e w' => e = .returned (.pointer (some ⟨w.heap.size, 0, none⟩)) ∧ Below w.heap.size w w' ∧ HearOK w w' data c := by
  have hb0 := Aside.mk (Blk.new w 65 [.string data, .int .i64 0, .bool false, .int .i64 0, .nilFunc])
  have HL := Aside.mk ((Below.refl w.heap.size w).alloc (Nat.le_refl _) (.cells [.string data, .int .i64 0, .bool false, .int .i64 0, .nilFunc].toArray 65))
  have HD : Aside (data.size ≤ 140737488355328) := ⟨by omega⟩
  clear hd
  by_cases h0 : 0 < data.size
  · by_cases hc : data[0]! = c
    · have HE := Aside.mk ((one_text data c h0).2 hc)
      have HH : Aside (headIs data c = true) := ⟨by unfold headIs; rw [decide_eq_true h0, decide_eq_true hc]; rfl⟩
      clear hc
      go_enter Tryd.func36, Tryd.ntmps36
      go_wp2_with fail
      refine (take_ok w.heap.size _ data 0 1 _ _ _ hb0.out (by omega) HD.out).mono ?_
      rintro e w1 ⟨rfl, hg1, hb1⟩
      have B1 := Aside.mk (below_grown HL.out hg1 (Nat.le_refl _))
      have HB1 := Aside.mk hb1
      clear hg1 hb1 hb0 HL
      rw [show data.extract 0 (0 + 1) = ⟨#[c]⟩ from HE.out]
      go_wp2_with fail
      go_ret
      exact ⟨rfl, B1.out, 1, false, HB1.out, by omega, Or.inl ⟨rfl, rfl, HH.out⟩⟩
    · have hne : ¬ data.extract 0 1 = ⟨#[c]⟩ := fun e => hc ((one_text data c h0).1 e)
      have HH : Aside (headIs data c = false) := ⟨by unfold headIs; rw [decide_eq_false hc, Bool.and_false]⟩
      clear hc
      go_enter Tryd.func36, Tryd.ntmps36
      go_wp2_with fail
      refine (take_ok w.heap.size _ data 0 1 _ _ _ hb0.out (by omega) HD.out).mono ?_
      rintro e w1 ⟨rfl, hg1, hb1⟩
      have B1 := Aside.mk (below_grown HL.out hg1 (Nat.le_refl _))
      have HB1 := Aside.mk hb1
      have y2 := hb1.cell 2
      have f2 := hb1.free 2
      simp only [List.getElem?_cons_zero, List.getElem?_cons_succ] at y2
      clear hg1 hb1 hb0 HL
      rw [show data.extract 0 (0 + 1) = data.extract 0 1 from rfl]
      generalize data.extract 0 1 = x at hne
      have hnl : ¬ x.toList = [c] := fun e => hne (ext_list (by rw [e]; simp [ByteArray.toList_eq]))
      have hnb : (x.toList == [c]) = false := by simpa using hnl
      go_wp2_with fail
      go_ret
      exact ⟨rfl, B1.out.setCell (Nat.le_refl _) _, 1, true, HB1.out.set 2 _, by omega, Or.inr ⟨rfl, HH.out⟩⟩
  · have HH : Aside (headIs data c = false) := ⟨by simp [headIs, h0]⟩
    have hne : ¬ (⟨#[]⟩ : ByteArray) = ⟨#[c]⟩ := fun e => by injection e with e; injection e with e; cases e
    go_enter Tryd.func36, Tryd.ntmps36
    go_wp2_with fail
    refine (take_bad w.heap.size _ data 0 1 _ _ _ _ hb0.out (by omega) (by omega) (by omega) (by omega) HD.out (by omega)).mono ?_
    rintro e w1 ⟨rfl, hg1, hb1⟩
    have B1 := Aside.mk (below_grown HL.out hg1 (Nat.le_refl _))
    have HB1 := Aside.mk hb1
    have y2 := hb1.cell 2
    have f2 := hb1.free 2
    simp only [List.getElem?_cons_zero, List.getElem?_cons_succ] at y2
    clear hg1 hb1 hb0 HL
    go_wp2_with fail
    go_ret
    exact ⟨rfl, B1.out.setCell (Nat.le_refl _) _, 0, true, HB1.out.set 2 _, by omega, Or.inr ⟨rfl, HH.out⟩⟩
set_option maxRecDepth 100000 in
set_option maxHeartbeats 2000000 in
theorem heardName (g : Nat) (data : ByteArray) (k : Nat) (b : Bool) (l f : Value) (w : World) (hb : Blk w g 65 [.string data, .int .i64 k, .bool b, l, f]) (hk : k ≤ data.size) (hd : data.size ≤ 1048576) :
    Calls Tryd.prog 38 #[.pointer (some ⟨g, 0, none⟩)] w
      fun e w' => e = .returned (.string (data.extract k data.size)) ∧ w.grownBy w' (some g) ∧ Blk w' g 65 [.string data, .int .i64 (data.size : Nat), .bool (b || !nameB (data.extract k data.size)), l, f] := by
  have hss : (data.extract k data.size).size ≤ 9223372036854775807 := by rw [extract_size (by omega) (by omega)]; omega
  obtain ⟨s, hs⟩ : ∃ s, s = data.extract k data.size := ⟨_, rfl⟩
  rw [← hs] at hss ⊢
  have HSd := Aside.mk hs
  clear hs
  have HB := Aside.mk hb
  have y0 := hb.cell 0
  have y1 := hb.cell 1
  simp only [List.getElem?_cons_zero, List.getElem?_cons_succ] at y0 y1
  have lg : g < w.heap.size := hb.lt
  have hki : (k : Int) ≤ data.size := by omega
  have hkn : ¬ (data.size : Int) < k := by omega
  have hkm : ¬ data.size < k := by omega
  clear hb
  go_enter Tryd.func38, Tryd.ntmps38
  go_wp2_with fail
  refine region_env [(0, true), (1, true), (2, true), (3, true), (4, true), (5, true), (6, true), (7, true), (8, true), (9, true), (10, true), (11, true), (12, true), (13, true), (14, true), (15, true), (16, true), (17, true), (18, true)] (fun w' => Below w.heap.size w w') 40 rfl (by kernel_rfl) (by kernel_rfl) (fun _ _ d _ _ h => by cases d <;> exact h) ((Below.refl _ _).drew) (fun ops fr HFR HSZ hl => ?_)
  have hl_0 := ops_start hl
  clear hl
  obtain ⟨H0, hl_1⟩ := ops_next 0 1 rfl hl_0
  clear hl_0
  obtain ⟨H1, hl_2⟩ := ops_next 1 2 rfl hl_1
  clear hl_1
  obtain ⟨H2, hl_3⟩ := ops_next 2 3 rfl hl_2
  clear hl_2
  obtain ⟨H3, hl_4⟩ := ops_next 3 4 rfl hl_3
  clear hl_3
  obtain ⟨H4, hl_5⟩ := ops_next 4 5 rfl hl_4
  clear hl_4
  obtain ⟨H5, hl_6⟩ := ops_next 5 6 rfl hl_5
  clear hl_5
  obtain ⟨H6, hl_7⟩ := ops_next 6 7 rfl hl_6
  clear hl_6
  obtain ⟨H7, hl_8⟩ := ops_next 7 8 rfl hl_7
  clear hl_7
  obtain ⟨H8, hl_9⟩ := ops_next 8 9 rfl hl_8
  clear hl_8
  obtain ⟨H9, hl_10⟩ := ops_next 9 10 rfl hl_9
  clear hl_9
  obtain ⟨H10, hl_11⟩ := ops_next 10 11 rfl hl_10
  clear hl_10
  obtain ⟨H11, hl_12⟩ := ops_next 11 12 rfl hl_11
  clear hl_11
  obtain ⟨H12, hl_13⟩ := ops_next 12 13 rfl hl_12
  clear hl_12
  obtain ⟨H13, hl_14⟩ := ops_next 13 14 rfl hl_13
  clear hl_13
  obtain ⟨H14, hl_15⟩ := ops_next 14 15 rfl hl_14
  clear hl_14
  obtain ⟨H15, hl_16⟩ := ops_next 15 16 rfl hl_15
  clear hl_15
  obtain ⟨H16, hl_17⟩ := ops_next 16 17 rfl hl_16
  clear hl_16
  obtain ⟨H17, hl_18⟩ := ops_next 17 18 rfl hl_17
  clear hl_17
  obtain ⟨H18, hl_19⟩ := ops_next 18 19 rfl hl_18
  clear hl_18
  clear hl_19
  have x_0 : ext fr 0 = _ := congrArg (fun a => Act.eval a (.tmp 0)) HFR.out
  conv at x_0 => rhs; simp only [Act.eval, Array.getD_eq_getD_getElem?, List.getElem?_toArray, List.getElem?_cons_succ, List.getElem?_cons_zero, Option.getD_some]
  refine env_yes HSZ H0.out ?_ (fun w' hS => ?_) ?_
  rotate_left
  (go_simp
   rfl)
  refine env_yes HSZ H1.out ?_ (fun w' hS => ?_) ?_
  rotate_left
  (go_simp
   rfl)
  refine env_yes HSZ H2.out ?_ (fun w' hS => ?_) ?_
  rotate_left
  (go_simp
   rfl)
  refine env_yes HSZ H3.out ?_ (fun w' hS => ?_) ?_
  rotate_left
  (go_simp
   rfl)
  refine env_yes HSZ H4.out ?_ (fun w' hS => ?_) ?_
  rotate_left
  (have h := (hS.cell (p := ⟨g, 0, none⟩) lg).trans y0
   go_simp
   rfl)
  refine env_yes HSZ H5.out ?_ (fun w' hS => ?_) ?_
  rotate_left
  (go_simp
   rfl)
  refine env_yes HSZ H6.out ?_ (fun w' hS => ?_) ?_
  rotate_left
  (go_simp
   rfl)
  refine env_yes HSZ H7.out ?_ (fun w' hS => ?_) ?_
  rotate_left
  (go_simp
   rfl)
  refine env_yes HSZ H8.out ?_ (fun w' hS => ?_) ?_
  rotate_left
  (go_simp
   rfl)
  refine env_yes HSZ H9.out ?_ (fun w' hS => ?_) ?_
  rotate_left
  (have h := (hS.cell (p := ⟨g, 1, none⟩) lg).trans y1
   go_simp
   rfl)
  refine env_yes HSZ H10.out ?_ (fun w' hS => ?_) ?_
  rotate_left
  (go_simp
   rfl)
  refine env_yes HSZ H11.out ?_ (fun w' hS => ?_) ?_
  rotate_left
  (go_simp
   rfl)
  refine env_yes HSZ H12.out ?_ (fun w' hS => ?_) ?_
  rotate_left
  (go_simp
   rfl)
  refine env_yes HSZ H13.out ?_ (fun w' hS => ?_) ?_
  rotate_left
  (go_simp
   rfl)
  refine env_yes HSZ H14.out ?_ (fun w' hS => ?_) ?_
  rotate_left
  (have h := (hS.cell (p := ⟨g, 0, none⟩) lg).trans y0
   go_simp
   rfl)
  refine env_yes HSZ H15.out ?_ (fun w' hS => ?_) ?_
  rotate_left
  (go_simp
   rfl)
  refine env_yes HSZ H16.out ?_ (fun w' hS => ?_) ?_
  rotate_left
  (go_simp
   rfl)
  refine env_yes HSZ H17.out ?_ (fun w' hS => ?_) ?_
  rotate_left
  (go_simp
   rfl)
  refine env_yes HSZ H18.out ?_ (fun w' hS => ?_) ?_
  rotate_left
  (go_simp
   rfl)
  refine env_end ?_
  have hfr := HFR.out
  clear HFR HSZ H0 H1 H2 H3 H4 H5 H6 H7 H8 H9 H10 H11 H12 H13 H14 H15 H16 H17 H18 x_0
  subst hfr
  simp only [putAll, Act.put, List.setIfInBounds_toArray, List.set_cons_succ, List.set_cons_zero]
  rw [← HSd.out]
  have HBD : Aside (Blk w.drew g 65 [.string data, .int .i64 k, .bool b, l, f]) := ⟨HB.out⟩
  have HG0 : Aside (w.grownBy w.drew (some g)) := ⟨grown_drewN (grown_refl w (some g)) 1⟩
  clear y0 y1 lg HB
  generalize w.drew = w1 at HBD HG0 ⊢
  go_wp2_with fail
  refine (nameOK s _ hss).mono ?_
  rintro e w' ⟨rfl, rfl⟩
  have y0 := HBD.out.cell 0
  have y1 := HBD.out.cell 1
  have y2 := HBD.out.cell 2
  have f1 := HBD.out.free 1
  have f2 := HBD.out.free 2
  simp only [List.getElem?_cons_zero, List.getElem?_cons_succ] at y0 y1 y2
  obtain ⟨nb, hnb⟩ : ∃ nb, nb = nameB s := ⟨_, rfl⟩
  rw [← hnb]
  have HNB := Aside.mk hnb
  clear hnb
  cases nb
  · obtain ⟨w2, hw2⟩ : ∃ x, x = w1.setCell ⟨g, 2, none⟩ (.bool true) := ⟨_, rfl⟩
    have K2 : Aside (Blk w2 g 65 [.string data, .int .i64 k, .bool true, l, f]) := ⟨by rw [hw2]; exact HBD.out.set 2 _⟩
    have G2 : Aside (w.grownBy w2 (some g)) := ⟨by rw [hw2]; exact grown_set HG0.out 2 _⟩
    have HW2 := Aside.mk hw2
    have e2 : (b || !false) = true := by simp
    clear hw2
    go_wp2_with fail
    go_ret
    exact ⟨rfl, by have hg := G2.out; rw [HW2.out] at hg; exact grown_set hg 1 _, by have hk2 := K2.out; rw [HW2.out] at hk2; rw [← HNB.out, e2]; exact hk2.set 1 _⟩
  · have e2 : (b || !true) = b := by simp
    go_wp2_with fail
    go_ret
    exact ⟨rfl, grown_set HG0.out 1 _, by rw [← HNB.out, e2]; exact HBD.out.set 1 _⟩
set_option maxRecDepth 100000 in
set_option maxHeartbeats 2000000 in
theorem fine (g : Nat) (data : ByteArray) (k : Nat) (b : Bool) (l f : Value) (w : World) (hb : Blk w g 65 [.string data, .int .i64 k, .bool b, l, f]) (hd : data.size ≤ 1048576) :
    Calls Tryd.prog 39 #[.pointer (some ⟨g, 0, none⟩)] w
      fun e w' => e = .returned (.bool (!b && decide (k = data.size))) ∧ Below w.heap.size w w' := by
  have y0 := hb.cell 0
  have y1 := hb.cell 1
  have y2 := hb.cell 2
  simp only [List.getElem?_cons_zero, List.getElem?_cons_succ] at y0 y1 y2
  have lg : g < w.heap.size := hb.lt
  clear hb
  cases b
  · by_cases hk : k = data.size
    · subst hk
      go_enter Tryd.func39, Tryd.ntmps39
      go_wp2_with fail
      refine region_env [(0, true), (1, true), (2, true), (3, true), (4, true), (5, true), (6, true), (7, true), (8, true), (9, true), (10, true), (11, true), (12, true), (13, true), (14, true), (15, true), (16, true), (17, true), (18, true), (19, true), (20, true)] (fun w' => Below w.heap.size w w') 23 rfl (by kernel_rfl) (by kernel_rfl) (fun _ _ d _ _ h => by cases d <;> exact h) ((Below.refl _ _).drew) (fun ops fr HFR HSZ hl => ?_)
      have hl_0 := ops_start hl
      clear hl
      obtain ⟨H0, hl_1⟩ := ops_next 0 1 rfl hl_0
      clear hl_0
      obtain ⟨H1, hl_2⟩ := ops_next 1 2 rfl hl_1
      clear hl_1
      obtain ⟨H2, hl_3⟩ := ops_next 2 3 rfl hl_2
      clear hl_2
      obtain ⟨H3, hl_4⟩ := ops_next 3 4 rfl hl_3
      clear hl_3
      obtain ⟨H4, hl_5⟩ := ops_next 4 5 rfl hl_4
      clear hl_4
      obtain ⟨H5, hl_6⟩ := ops_next 5 6 rfl hl_5
      clear hl_5
      obtain ⟨H6, hl_7⟩ := ops_next 6 7 rfl hl_6
      clear hl_6
      obtain ⟨H7, hl_8⟩ := ops_next 7 8 rfl hl_7
      clear hl_7
      obtain ⟨H8, hl_9⟩ := ops_next 8 9 rfl hl_8
      clear hl_8
      obtain ⟨H9, hl_10⟩ := ops_next 9 10 rfl hl_9
      clear hl_9
      obtain ⟨H10, hl_11⟩ := ops_next 10 11 rfl hl_10
      clear hl_10
      obtain ⟨H11, hl_12⟩ := ops_next 11 12 rfl hl_11
      clear hl_11
      obtain ⟨H12, hl_13⟩ := ops_next 12 13 rfl hl_12
      clear hl_12
      obtain ⟨H13, hl_14⟩ := ops_next 13 14 rfl hl_13
      clear hl_13
      obtain ⟨H14, hl_15⟩ := ops_next 14 15 rfl hl_14
      clear hl_14
      obtain ⟨H15, hl_16⟩ := ops_next 15 16 rfl hl_15
      clear hl_15
      obtain ⟨H16, hl_17⟩ := ops_next 16 17 rfl hl_16
      clear hl_16
      obtain ⟨H17, hl_18⟩ := ops_next 17 18 rfl hl_17
      clear hl_17
      obtain ⟨H18, hl_19⟩ := ops_next 18 19 rfl hl_18
      clear hl_18
      obtain ⟨H19, hl_20⟩ := ops_next 19 20 rfl hl_19
      clear hl_19
      obtain ⟨H20, hl_21⟩ := ops_next 20 21 rfl hl_20
      clear hl_20
      clear hl_21
      have x_0 : ext fr 0 = _ := congrArg (fun a => Act.eval a (.tmp 0)) HFR.out
      conv at x_0 => rhs; simp only [Act.eval, Array.getD_eq_getD_getElem?, List.getElem?_toArray, List.getElem?_cons_succ, List.getElem?_cons_zero, Option.getD_some]
      refine env_yes HSZ H0.out ?_ (fun w' hS => ?_) ?_
      rotate_left
      (go_simp
       rfl)
      refine env_yes HSZ H1.out ?_ (fun w' hS => ?_) ?_
      rotate_left
      (go_simp
       rfl)
      refine env_yes HSZ H2.out ?_ (fun w' hS => ?_) ?_
      rotate_left
      (go_simp
       rfl)
      refine env_yes HSZ H3.out ?_ (fun w' hS => ?_) ?_
      rotate_left
      (go_simp
       rfl)
      refine env_yes HSZ H4.out ?_ (fun w' hS => ?_) ?_
      rotate_left
      (have h := (hS.cell (p := ⟨g, 2, none⟩) lg).trans y2
       go_simp
       rfl)
      refine env_yes HSZ H5.out ?_ (fun w' hS => ?_) ?_
      rotate_left
      (go_simp
       rfl)
      refine env_yes HSZ H6.out ?_ (fun w' hS => ?_) ?_
      rotate_left
      (go_simp
       rfl)
      refine env_on HSZ H7.out H6.out (by first | rfl | go_simp) ?_ (fun w' hS => ?_) ?_
      rotate_left
      (go_simp
       rfl)
      refine env_on HSZ H8.out H6.out (by first | rfl | go_simp) ?_ (fun w' hS => ?_) ?_
      rotate_left
      (go_simp
       rfl)
      refine env_on HSZ H9.out H6.out (by first | rfl | go_simp) ?_ (fun w' hS => ?_) ?_
      rotate_left
      (go_simp
       rfl)
      refine env_on HSZ H10.out H6.out (by first | rfl | go_simp) ?_ (fun w' hS => ?_) ?_
      rotate_left
      (go_simp
       rfl)
      refine env_on HSZ H11.out H6.out (by first | rfl | go_simp) ?_ (fun w' hS => ?_) ?_
      rotate_left
      (have h := (hS.cell (p := ⟨g, 1, none⟩) lg).trans y1
       go_simp
       rfl)
      refine env_on HSZ H12.out H6.out (by first | rfl | go_simp) ?_ (fun w' hS => ?_) ?_
      rotate_left
      (go_simp
       rfl)
      refine env_on HSZ H13.out H6.out (by first | rfl | go_simp) ?_ (fun w' hS => ?_) ?_
      rotate_left
      (go_simp
       rfl)
      refine env_on HSZ H14.out H6.out (by first | rfl | go_simp) ?_ (fun w' hS => ?_) ?_
      rotate_left
      (go_simp
       rfl)
      refine env_on HSZ H15.out H6.out (by first | rfl | go_simp) ?_ (fun w' hS => ?_) ?_
      rotate_left
      (go_simp
       rfl)
      refine env_on HSZ H16.out H6.out (by first | rfl | go_simp) ?_ (fun w' hS => ?_) ?_
      rotate_left
      (have h := (hS.cell (p := ⟨g, 0, none⟩) lg).trans y0
       go_simp
       rfl)
      refine env_on HSZ H17.out H6.out (by first | rfl | go_simp) ?_ (fun w' hS => ?_) ?_
      rotate_left
      (go_simp
       rfl)
      refine env_on HSZ H18.out H6.out (by first | rfl | go_simp) ?_ (fun w' hS => ?_) ?_
      rotate_left
      (go_simp
       rfl)
      refine env_yes HSZ H19.out ?_ (fun w' hS => ?_) ?_
      rotate_left
      (go_simp
       rfl)
      refine env_yes HSZ H20.out ?_ (fun w' hS => ?_) ?_
      rotate_left
      (go_simp
       rfl)
      refine env_end ?_
      have hfr := HFR.out
      clear HFR HSZ H0 H1 H2 H3 H4 H5 H6 H7 H8 H9 H10 H11 H12 H13 H14 H15 H16 H17 H18 H19 H20 x_0
      subst hfr
      simp only [putAll, Act.put, List.setIfInBounds_toArray, List.set_cons_succ, List.set_cons_zero]
      go_wp2_with fail
      go_ret
      exact ⟨by first | rfl | simp, (Below.refl _ _).drew⟩
    · have hk2 : ¬ (k : Int) = data.size := by omega
      have hk3 : ((k : Int) == (data.size : Int)) = false := by simpa using hk2
      go_enter Tryd.func39, Tryd.ntmps39
      go_wp2_with fail
      refine region_env [(0, true), (1, true), (2, true), (3, true), (4, true), (5, true), (6, true), (7, true), (8, true), (9, true), (10, true), (11, true), (12, true), (13, true), (14, true), (15, true), (16, true), (17, true), (18, true), (19, true), (20, true)] (fun w' => Below w.heap.size w w') 23 rfl (by kernel_rfl) (by kernel_rfl) (fun _ _ d _ _ h => by cases d <;> exact h) ((Below.refl _ _).drew) (fun ops fr HFR HSZ hl => ?_)
      have hl_0 := ops_start hl
      clear hl
      obtain ⟨H0, hl_1⟩ := ops_next 0 1 rfl hl_0
      clear hl_0
      obtain ⟨H1, hl_2⟩ := ops_next 1 2 rfl hl_1
      clear hl_1
      obtain ⟨H2, hl_3⟩ := ops_next 2 3 rfl hl_2
      clear hl_2
      obtain ⟨H3, hl_4⟩ := ops_next 3 4 rfl hl_3
      clear hl_3
      obtain ⟨H4, hl_5⟩ := ops_next 4 5 rfl hl_4
      clear hl_4
      obtain ⟨H5, hl_6⟩ := ops_next 5 6 rfl hl_5
      clear hl_5
      obtain ⟨H6, hl_7⟩ := ops_next 6 7 rfl hl_6
      clear hl_6
      obtain ⟨H7, hl_8⟩ := ops_next 7 8 rfl hl_7
      clear hl_7
      obtain ⟨H8, hl_9⟩ := ops_next 8 9 rfl hl_8
      clear hl_8
      obtain ⟨H9, hl_10⟩ := ops_next 9 10 rfl hl_9
      clear hl_9
      obtain ⟨H10, hl_11⟩ := ops_next 10 11 rfl hl_10
      clear hl_10
      obtain ⟨H11, hl_12⟩ := ops_next 11 12 rfl hl_11
      clear hl_11
      obtain ⟨H12, hl_13⟩ := ops_next 12 13 rfl hl_12
      clear hl_12
      obtain ⟨H13, hl_14⟩ := ops_next 13 14 rfl hl_13
      clear hl_13
      obtain ⟨H14, hl_15⟩ := ops_next 14 15 rfl hl_14
      clear hl_14
      obtain ⟨H15, hl_16⟩ := ops_next 15 16 rfl hl_15
      clear hl_15
      obtain ⟨H16, hl_17⟩ := ops_next 16 17 rfl hl_16
      clear hl_16
      obtain ⟨H17, hl_18⟩ := ops_next 17 18 rfl hl_17
      clear hl_17
      obtain ⟨H18, hl_19⟩ := ops_next 18 19 rfl hl_18
      clear hl_18
      obtain ⟨H19, hl_20⟩ := ops_next 19 20 rfl hl_19
      clear hl_19
      obtain ⟨H20, hl_21⟩ := ops_next 20 21 rfl hl_20
      clear hl_20
      clear hl_21
      have x_0 : ext fr 0 = _ := congrArg (fun a => Act.eval a (.tmp 0)) HFR.out
      conv at x_0 => rhs; simp only [Act.eval, Array.getD_eq_getD_getElem?, List.getElem?_toArray, List.getElem?_cons_succ, List.getElem?_cons_zero, Option.getD_some]
      refine env_yes HSZ H0.out ?_ (fun w' hS => ?_) ?_
      rotate_left
      (go_simp
       rfl)
      refine env_yes HSZ H1.out ?_ (fun w' hS => ?_) ?_
      rotate_left
      (go_simp
       rfl)
      refine env_yes HSZ H2.out ?_ (fun w' hS => ?_) ?_
      rotate_left
      (go_simp
       rfl)
      refine env_yes HSZ H3.out ?_ (fun w' hS => ?_) ?_
      rotate_left
      (go_simp
       rfl)
      refine env_yes HSZ H4.out ?_ (fun w' hS => ?_) ?_
      rotate_left
      (have h := (hS.cell (p := ⟨g, 2, none⟩) lg).trans y2
       go_simp
       rfl)
      refine env_yes HSZ H5.out ?_ (fun w' hS => ?_) ?_
      rotate_left
      (go_simp
       rfl)
      refine env_yes HSZ H6.out ?_ (fun w' hS => ?_) ?_
      rotate_left
      (go_simp
       rfl)
      refine env_on HSZ H7.out H6.out (by first | rfl | go_simp) ?_ (fun w' hS => ?_) ?_
      rotate_left
      (go_simp
       rfl)
      refine env_on HSZ H8.out H6.out (by first | rfl | go_simp) ?_ (fun w' hS => ?_) ?_
      rotate_left
      (go_simp
       rfl)
      refine env_on HSZ H9.out H6.out (by first | rfl | go_simp) ?_ (fun w' hS => ?_) ?_
      rotate_left
      (go_simp
       rfl)
      refine env_on HSZ H10.out H6.out (by first | rfl | go_simp) ?_ (fun w' hS => ?_) ?_
      rotate_left
      (go_simp
       rfl)
      refine env_on HSZ H11.out H6.out (by first | rfl | go_simp) ?_ (fun w' hS => ?_) ?_
      rotate_left
      (have h := (hS.cell (p := ⟨g, 1, none⟩) lg).trans y1
       go_simp
       rfl)
      refine env_on HSZ H12.out H6.out (by first | rfl | go_simp) ?_ (fun w' hS => ?_) ?_
      rotate_left
      (go_simp
       rfl)
      refine env_on HSZ H13.out H6.out (by first | rfl | go_simp) ?_ (fun w' hS => ?_) ?_
      rotate_left
      (go_simp
       rfl)
      refine env_on HSZ H14.out H6.out (by first | rfl | go_simp) ?_ (fun w' hS => ?_) ?_
      rotate_left
      (go_simp
       rfl)
      refine env_on HSZ H15.out H6.out (by first | rfl | go_simp) ?_ (fun w' hS => ?_) ?_
      rotate_left
      (go_simp
       rfl)
      refine env_on HSZ H16.out H6.out (by first | rfl | go_simp) ?_ (fun w' hS => ?_) ?_
      rotate_left
      (have h := (hS.cell (p := ⟨g, 0, none⟩) lg).trans y0
       go_simp
       rfl)
      refine env_on HSZ H17.out H6.out (by first | rfl | go_simp) ?_ (fun w' hS => ?_) ?_
      rotate_left
      (go_simp
       rfl)
      refine env_on HSZ H18.out H6.out (by first | rfl | go_simp) ?_ (fun w' hS => ?_) ?_
      rotate_left
      (go_simp
       rfl)
      refine env_yes HSZ H19.out ?_ (fun w' hS => ?_) ?_
      rotate_left
      (go_simp
       rfl)
      refine env_yes HSZ H20.out ?_ (fun w' hS => ?_) ?_
      rotate_left
      (go_simp
       rfl)
      refine env_end ?_
      have hfr := HFR.out
      clear HFR HSZ H0 H1 H2 H3 H4 H5 H6 H7 H8 H9 H10 H11 H12 H13 H14 H15 H16 H17 H18 H19 H20 x_0
      subst hfr
      simp only [putAll, Act.put, List.setIfInBounds_toArray, List.set_cons_succ, List.set_cons_zero]
      go_wp2_with fail
      go_ret
      exact ⟨by first | rfl | simp [hk] | simp [hk2], (Below.refl _ _).drew⟩
  · go_enter Tryd.func39, Tryd.ntmps39
    go_wp2_with fail
    refine region_env [(0, true), (1, true), (2, true), (3, true), (4, true), (5, true), (6, true), (7, true), (8, true), (9, true), (10, true), (11, true), (12, true), (13, true), (14, true), (15, true), (16, true), (17, true), (18, true), (19, true), (20, true)] (fun w' => Below w.heap.size w w') 23 rfl (by kernel_rfl) (by kernel_rfl) (fun _ _ d _ _ h => by cases d <;> exact h) ((Below.refl _ _).drew) (fun ops fr HFR HSZ hl => ?_)
    have hl_0 := ops_start hl
    clear hl
    obtain ⟨H0, hl_1⟩ := ops_next 0 1 rfl hl_0
    clear hl_0
    obtain ⟨H1, hl_2⟩ := ops_next 1 2 rfl hl_1
    clear hl_1
    obtain ⟨H2, hl_3⟩ := ops_next 2 3 rfl hl_2
    clear hl_2
    obtain ⟨H3, hl_4⟩ := ops_next 3 4 rfl hl_3
    clear hl_3
    obtain ⟨H4, hl_5⟩ := ops_next 4 5 rfl hl_4
    clear hl_4
    obtain ⟨H5, hl_6⟩ := ops_next 5 6 rfl hl_5
    clear hl_5
    obtain ⟨H6, hl_7⟩ := ops_next 6 7 rfl hl_6
    clear hl_6
    obtain ⟨H7, hl_8⟩ := ops_next 7 8 rfl hl_7
    clear hl_7
    obtain ⟨H8, hl_9⟩ := ops_next 8 9 rfl hl_8
    clear hl_8
    obtain ⟨H9, hl_10⟩ := ops_next 9 10 rfl hl_9
    clear hl_9
    obtain ⟨H10, hl_11⟩ := ops_next 10 11 rfl hl_10
    clear hl_10
    obtain ⟨H11, hl_12⟩ := ops_next 11 12 rfl hl_11
    clear hl_11
    obtain ⟨H12, hl_13⟩ := ops_next 12 13 rfl hl_12
    clear hl_12
    obtain ⟨H13, hl_14⟩ := ops_next 13 14 rfl hl_13
    clear hl_13
    obtain ⟨H14, hl_15⟩ := ops_next 14 15 rfl hl_14
    clear hl_14
    obtain ⟨H15, hl_16⟩ := ops_next 15 16 rfl hl_15
    clear hl_15
    obtain ⟨H16, hl_17⟩ := ops_next 16 17 rfl hl_16
    clear hl_16
    obtain ⟨H17, hl_18⟩ := ops_next 17 18 rfl hl_17
    clear hl_17
    obtain ⟨H18, hl_19⟩ := ops_next 18 19 rfl hl_18
    clear hl_18
    obtain ⟨H19, hl_20⟩ := ops_next 19 20 rfl hl_19
    clear hl_19
    obtain ⟨H20, hl_21⟩ := ops_next 20 21 rfl hl_20
    clear hl_20
    clear hl_21
    have x_0 : ext fr 0 = _ := congrArg (fun a => Act.eval a (.tmp 0)) HFR.out
    conv at x_0 => rhs; simp only [Act.eval, Array.getD_eq_getD_getElem?, List.getElem?_toArray, List.getElem?_cons_succ, List.getElem?_cons_zero, Option.getD_some]
    refine env_yes HSZ H0.out ?_ (fun w' hS => ?_) ?_
    rotate_left
    (go_simp
     rfl)
    refine env_yes HSZ H1.out ?_ (fun w' hS => ?_) ?_
    rotate_left
    (go_simp
     rfl)
    refine env_yes HSZ H2.out ?_ (fun w' hS => ?_) ?_
    rotate_left
    (go_simp
     rfl)
    refine env_yes HSZ H3.out ?_ (fun w' hS => ?_) ?_
    rotate_left
    (go_simp
     rfl)
    refine env_yes HSZ H4.out ?_ (fun w' hS => ?_) ?_
    rotate_left
    (have h := (hS.cell (p := ⟨g, 2, none⟩) lg).trans y2
     go_simp
     rfl)
    refine env_yes HSZ H5.out ?_ (fun w' hS => ?_) ?_
    rotate_left
    (go_simp
     rfl)
    refine env_yes HSZ H6.out ?_ (fun w' hS => ?_) ?_
    rotate_left
    (go_simp
     rfl)
    refine env_off HSZ H7.out H6.out (by first | rfl | go_simp) ?_
    refine env_off HSZ H8.out H6.out (by first | rfl | go_simp) ?_
    refine env_off HSZ H9.out H6.out (by first | rfl | go_simp) ?_
    refine env_off HSZ H10.out H6.out (by first | rfl | go_simp) ?_
    refine env_off HSZ H11.out H6.out (by first | rfl | go_simp) ?_
    refine env_off HSZ H12.out H6.out (by first | rfl | go_simp) ?_
    refine env_off HSZ H13.out H6.out (by first | rfl | go_simp) ?_
    refine env_off HSZ H14.out H6.out (by first | rfl | go_simp) ?_
    refine env_off HSZ H15.out H6.out (by first | rfl | go_simp) ?_
    refine env_off HSZ H16.out H6.out (by first | rfl | go_simp) ?_
    refine env_off HSZ H17.out H6.out (by first | rfl | go_simp) ?_
    refine env_off HSZ H18.out H6.out (by first | rfl | go_simp) ?_
    refine env_yes HSZ H19.out ?_ (fun w' hS => ?_) ?_
    rotate_left
    (go_simp
     rfl)
    refine env_yes HSZ H20.out ?_ (fun w' hS => ?_) ?_
    rotate_left
    (go_simp
     rfl)
    refine env_end ?_
    have hfr := HFR.out
    clear HFR HSZ H0 H1 H2 H3 H4 H5 H6 H7 H8 H9 H10 H11 H12 H13 H14 H15 H16 H17 H18 H19 H20 x_0
    subst hfr
    simp only [putAll, Act.put, List.setIfInBounds_toArray, List.set_cons_succ, List.set_cons_zero]
    go_wp2_with fail
    go_ret
    exact ⟨by first | rfl | simp, (Below.refl _ _).drew⟩
end Go.Proofs.YtlopbheahedofaaDoor.Fn
