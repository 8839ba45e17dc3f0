/- Walk of the reference's HandStep: states 5, 6, 1. Conditions: those of each theorem. -/
import Derived.Test.YtlopbheahedofaaDoorHs1
import Derived.Test.YtlopbheahedofaaDoorHs3
import Derived.Test.YtlopbheahedofaaDoorPlanU
set_option linter.unusedVariables false
namespace Go.Proofs.YtlopbheahedofaaDoor.Fn
open Go Go.RowKit Go.Proofs.YtlopbheahedofaaDoor.Lib Go.Proofs.YtlopbheahedofaaDoor.Plan
attribute [local go_sem] look_tmp look_const look_func look_global lookT_nil lookT_hit lookT_miss

/-- What a step is to answer. -/
def StepOK (w : World) (r : AHand × List ByteArray) (code : Int) (e : Ending) (w' : World) : Prop :=
  ∃ v, e = .returned (.tuple #[.agg #[.int .i64 r.1.1, .string r.1.2.1, .string r.1.2.2.1, .int .i64 r.1.2.2.2.1, .int .i64 r.1.2.2.2.2.1, .string r.1.2.2.2.2.2.1, .string r.1.2.2.2.2.2.2.1, .int .i64 r.1.2.2.2.2.2.2.2], v, .int .i64 code]) ∧
    Rec.str.sl.rd True w' (Span w.heap.size w'.heap.size) r.2 [v] ∧ Below w.heap.size w w'
theorem strs_nil (w : World) (S : Nat → Prop) (A : Option Addr) : Rec.str.sl.rd True w S [] [.slice A 0 0] := ⟨A, 0, rfl, Nat.le_refl _, Or.inl rfl⟩
set_option maxRecDepth 100000 in
set_option maxHeartbeats 8000000 in
theorem sStep5 (name cookie : ByteArray) (flags mine : Int) (calls peer : ByteArray) (both : Int) (data : ByteArray) (w : World) (hn : name.size ≤ 1048576) (hc : cookie.size ≤ 100) (hf0 : 0 ≤ flags) (hf1 : flags ≤ 65535) (hm0 : 0 ≤ mine) (hm1 : mine ≤ 4294967295) (hca : calls.size ≤ 1048576) (hpe : peer.size ≤ 1048576) (hd : data.size ≤ 1048576) (hb : handB 5 name cookie flags mine calls peer both = true) :
    Calls Tryd.prog 13 #[.agg #[.int .i64 5, .string name, .string cookie, .int .i64 flags, .int .i64 mine, .string calls, .string peer, .int .i64 both], .string data] w (StepOK w (hearsR 5 name cookie flags mine calls peer both data) 0) := by
  have E : Aside (hearsR 5 name cookie flags mine calls peer both data = ((5, name, cookie, flags, mine, calls, peer, both), [])) := ⟨rfl⟩
  generalize hearsR 5 name cookie flags mine calls peer both data = r at E ⊢
  have HB := Aside.mk hb
  clear hb
  go_enter Tryd.func13, Tryd.ntmps13
  go_wp2_with fail
  obtain ⟨w3, hw3⟩ : ∃ x, x = ((w.alloc (.cells #[.int .i64 5, .string name, .string cookie, .int .i64 flags, .int .i64 mine, .string calls, .string peer, .int .i64 both] 27)).alloc (.cells #[.int .i64 0, .string ⟨#[]⟩, .string ⟨#[]⟩, .int .i64 0, .int .i64 0, .string ⟨#[]⟩, .string ⟨#[]⟩, .int .i64 0] 27)).alloc (.cells #[] 9) := ⟨_, rfl⟩
  rw [← hw3]
  have K2 : Aside (Blk w3 w.heap.size 27 [.int .i64 5, .string name, .string cookie, .int .i64 flags, .int .i64 mine, .string calls, .string peer, .int .i64 both]) := ⟨by rw [hw3]; exact ((Blk.new w 27 [.int .i64 5, .string name, .string cookie, .int .i64 flags, .int .i64 mine, .string calls, .string peer, .int .i64 both]).alloc _).alloc _⟩
  have K4 : Aside (Blk w3 (w.heap.size + 1) 27 [.int .i64 0, .string ⟨#[]⟩, .string ⟨#[]⟩, .int .i64 0, .int .i64 0, .string ⟨#[]⟩, .string ⟨#[]⟩, .int .i64 0]) := ⟨by rw [hw3]; exact (Blk.made (w.alloc _) 27 [.int .i64 0, .string ⟨#[]⟩, .string ⟨#[]⟩, .int .i64 0, .int .i64 0, .string ⟨#[]⟩, .string ⟨#[]⟩, .int .i64 0] (by simp)).alloc _⟩
  have BL : Aside (Below w.heap.size w w3) := ⟨by rw [hw3]; go_grown⟩
  clear hw3
  refine (l13Hand 5 name cookie flags mine calls peer both w3 (by omega) (by omega) (by omega) (by omega)).mono ?_
  rintro e w4 ⟨rfl, hb⟩
  rw [HB.out]
  have K2n := Aside.mk (K2.out.below hb)
  have K4n := Aside.mk (K4.out.below hb)
  have BLn := Aside.mk (below_later BL.out hb)
  clear K2 K4 BL
  have K2 := K2n
  have K4 := K4n
  have BL := BLn
  clear BLn K2n K4n
  clear hb HB
  have u0 := K2.out.cell 0
  have u1 := K2.out.cell 1
  have u2 := K2.out.cell 2
  have u3 := K2.out.cell 3
  have u4 := K2.out.cell 4
  have u5 := K2.out.cell 5
  have u6 := K2.out.cell 6
  have u7 := K2.out.cell 7
  simp only [List.getElem?_cons_zero, List.getElem?_cons_succ] at u0 u1 u2 u3 u4 u5 u6 u7
  have f0 := K2.out.free 0
  have lx : w.heap.size < w4.heap.size := K2.out.lt
  go_wp2_with (refine wpList_store_blk rfl 27 _ _ rfl (w.heap.size + 1) [.int .i64 5, .string name, .string cookie, .int .i64 flags, .int .i64 mine, .string calls, .string peer, .int .i64 both] rfl rfl 27 [.int .i64 0, .string ⟨#[]⟩, .string ⟨#[]⟩, .int .i64 0, .int .i64 0, .string ⟨#[]⟩, .string ⟨#[]⟩, .int .i64 0] (K4.out) (by kernel_rfl) rfl rfl ?_; intro w9 k9 hg9; have K9 := Aside.mk k9; have B9 := Aside.mk (below_grown (BL.out) hg9 (by omega)); clear k9 hg9)
  refine bodyPost_ret (res_ctt rfl _ _ (w.heap.size + 1) 27 [.int .i64 5, .string name, .string cookie, .int .i64 flags, .int .i64 mine, .string calls, .string peer, .int .i64 both] _ rfl K9.out Tryd.underlying27 rfl (by kernel_rfl)) rfl ⟨.slice (some ⟨w.heap.size + 2, 0, none⟩) 0 0, by rw [E.out]; rfl, by rw [E.out]; exact strs_nil _ _ _, B9.out⟩
set_option maxRecDepth 100000 in
set_option maxHeartbeats 8000000 in
theorem sStep6 (name cookie : ByteArray) (flags mine : Int) (calls peer : ByteArray) (both : Int) (data : ByteArray) (w : World) (hn : name.size ≤ 1048576) (hc : cookie.size ≤ 100) (hf0 : 0 ≤ flags) (hf1 : flags ≤ 65535) (hm0 : 0 ≤ mine) (hm1 : mine ≤ 4294967295) (hca : calls.size ≤ 1048576) (hpe : peer.size ≤ 1048576) (hd : data.size ≤ 1048576) (hb : handB 6 name cookie flags mine calls peer both = true) :
    Calls Tryd.prog 13 #[.agg #[.int .i64 6, .string name, .string cookie, .int .i64 flags, .int .i64 mine, .string calls, .string peer, .int .i64 both], .string data] w (StepOK w (hearsR 6 name cookie flags mine calls peer both data) 0) := by
  have E : Aside (hearsR 6 name cookie flags mine calls peer both data = ((6, name, cookie, flags, mine, calls, peer, both), [])) := ⟨rfl⟩
  generalize hearsR 6 name cookie flags mine calls peer both data = r at E ⊢
  have HB := Aside.mk hb
  clear hb
  go_enter Tryd.func13, Tryd.ntmps13
  go_wp2_with fail
  obtain ⟨w3, hw3⟩ : ∃ x, x = ((w.alloc (.cells #[.int .i64 6, .string name, .string cookie, .int .i64 flags, .int .i64 mine, .string calls, .string peer, .int .i64 both] 27)).alloc (.cells #[.int .i64 0, .string ⟨#[]⟩, .string ⟨#[]⟩, .int .i64 0, .int .i64 0, .string ⟨#[]⟩, .string ⟨#[]⟩, .int .i64 0] 27)).alloc (.cells #[] 9) := ⟨_, rfl⟩
  rw [← hw3]
  have K2 : Aside (Blk w3 w.heap.size 27 [.int .i64 6, .string name, .string cookie, .int .i64 flags, .int .i64 mine, .string calls, .string peer, .int .i64 both]) := ⟨by rw [hw3]; exact ((Blk.new w 27 [.int .i64 6, .string name, .string cookie, .int .i64 flags, .int .i64 mine, .string calls, .string peer, .int .i64 both]).alloc _).alloc _⟩
  have K4 : Aside (Blk w3 (w.heap.size + 1) 27 [.int .i64 0, .string ⟨#[]⟩, .string ⟨#[]⟩, .int .i64 0, .int .i64 0, .string ⟨#[]⟩, .string ⟨#[]⟩, .int .i64 0]) := ⟨by rw [hw3]; exact (Blk.made (w.alloc _) 27 [.int .i64 0, .string ⟨#[]⟩, .string ⟨#[]⟩, .int .i64 0, .int .i64 0, .string ⟨#[]⟩, .string ⟨#[]⟩, .int .i64 0] (by simp)).alloc _⟩
  have BL : Aside (Below w.heap.size w w3) := ⟨by rw [hw3]; go_grown⟩
  clear hw3
  refine (l13Hand 6 name cookie flags mine calls peer both w3 (by omega) (by omega) (by omega) (by omega)).mono ?_
  rintro e w4 ⟨rfl, hb⟩
  rw [HB.out]
  have K2n := Aside.mk (K2.out.below hb)
  have K4n := Aside.mk (K4.out.below hb)
  have BLn := Aside.mk (below_later BL.out hb)
  clear K2 K4 BL
  have K2 := K2n
  have K4 := K4n
  have BL := BLn
  clear BLn K2n K4n
  clear hb HB
  have u0 := K2.out.cell 0
  have u1 := K2.out.cell 1
  have u2 := K2.out.cell 2
  have u3 := K2.out.cell 3
  have u4 := K2.out.cell 4
  have u5 := K2.out.cell 5
  have u6 := K2.out.cell 6
  have u7 := K2.out.cell 7
  simp only [List.getElem?_cons_zero, List.getElem?_cons_succ] at u0 u1 u2 u3 u4 u5 u6 u7
  have f0 := K2.out.free 0
  have lx : w.heap.size < w4.heap.size := K2.out.lt
  go_wp2_with (refine wpList_store_blk rfl 27 _ _ rfl (w.heap.size + 1) [.int .i64 6, .string name, .string cookie, .int .i64 flags, .int .i64 mine, .string calls, .string peer, .int .i64 both] rfl rfl 27 [.int .i64 0, .string ⟨#[]⟩, .string ⟨#[]⟩, .int .i64 0, .int .i64 0, .string ⟨#[]⟩, .string ⟨#[]⟩, .int .i64 0] (K4.out) (by kernel_rfl) rfl rfl ?_; intro w9 k9 hg9; have K9 := Aside.mk k9; have B9 := Aside.mk (below_grown (BL.out) hg9 (by omega)); clear k9 hg9)
  refine bodyPost_ret (res_ctt rfl _ _ (w.heap.size + 1) 27 [.int .i64 6, .string name, .string cookie, .int .i64 flags, .int .i64 mine, .string calls, .string peer, .int .i64 both] _ rfl K9.out Tryd.underlying27 rfl (by kernel_rfl)) rfl ⟨.slice (some ⟨w.heap.size + 2, 0, none⟩) 0 0, by rw [E.out]; rfl, by rw [E.out]; exact strs_nil _ _ _, B9.out⟩
set_option maxRecDepth 100000 in
set_option maxHeartbeats 8000000 in
theorem sStep1 (name cookie : ByteArray) (flags mine : Int) (calls peer : ByteArray) (both : Int) (data : ByteArray) (w : World) (hn : name.size ≤ 1048576) (hc : cookie.size ≤ 100) (hf0 : 0 ≤ flags) (hf1 : flags ≤ 65535) (hm0 : 0 ≤ mine) (hm1 : mine ≤ 4294967295) (hca : calls.size ≤ 1048576) (hpe : peer.size ≤ 1048576) (hd : data.size ≤ 1048576) (hb : handB 1 name cookie flags mine calls peer both = true) :
    Calls Tryd.prog 13 #[.agg #[.int .i64 1, .string name, .string cookie, .int .i64 flags, .int .i64 mine, .string calls, .string peer, .int .i64 both], .string data] w (StepOK w (hearsR 1 name cookie flags mine calls peer both data) 0) := by
  have E0 : Aside (hearsR 1 name cookie flags mine calls peer both data = if eqS data sokT || eqS data simT then ((2, name, cookie, flags, mine, calls, peer, both), []) else ((6, name, cookie, flags, mine, calls, peer, both), [])) := ⟨rfl⟩
  generalize hearsR 1 name cookie flags mine calls peer both data = r at E0 ⊢
  have HB := Aside.mk hb
  clear hb
  go_enter Tryd.func13, Tryd.ntmps13
  go_wp2_with fail
  obtain ⟨w3, hw3⟩ : ∃ x, x = ((w.alloc (.cells #[.int .i64 1, .string name, .string cookie, .int .i64 flags, .int .i64 mine, .string calls, .string peer, .int .i64 both] 27)).alloc (.cells #[.int .i64 0, .string ⟨#[]⟩, .string ⟨#[]⟩, .int .i64 0, .int .i64 0, .string ⟨#[]⟩, .string ⟨#[]⟩, .int .i64 0] 27)).alloc (.cells #[] 9) := ⟨_, rfl⟩
  rw [← hw3]
  have K2 : Aside (Blk w3 w.heap.size 27 [.int .i64 1, .string name, .string cookie, .int .i64 flags, .int .i64 mine, .string calls, .string peer, .int .i64 both]) := ⟨by rw [hw3]; exact ((Blk.new w 27 [.int .i64 1, .string name, .string cookie, .int .i64 flags, .int .i64 mine, .string calls, .string peer, .int .i64 both]).alloc _).alloc _⟩
  have K4 : Aside (Blk w3 (w.heap.size + 1) 27 [.int .i64 0, .string ⟨#[]⟩, .string ⟨#[]⟩, .int .i64 0, .int .i64 0, .string ⟨#[]⟩, .string ⟨#[]⟩, .int .i64 0]) := ⟨by rw [hw3]; exact (Blk.made (w.alloc _) 27 [.int .i64 0, .string ⟨#[]⟩, .string ⟨#[]⟩, .int .i64 0, .int .i64 0, .string ⟨#[]⟩, .string ⟨#[]⟩, .int .i64 0] (by simp)).alloc _⟩
  have BL : Aside (Below w.heap.size w w3) := ⟨by rw [hw3]; go_grown⟩
  clear hw3
  refine (l13Hand 1 name cookie flags mine calls peer both w3 (by omega) (by omega) (by omega) (by omega)).mono ?_
  rintro e w4 ⟨rfl, hb⟩
  rw [HB.out]
  have K2n := Aside.mk (K2.out.below hb)
  have K4n := Aside.mk (K4.out.below hb)
  have BLn := Aside.mk (below_later BL.out hb)
  clear K2 K4 BL
  have K2 := K2n
  have K4 := K4n
  have BL := BLn
  clear BLn K2n K4n
  clear hb HB
  have u0 := K2.out.cell 0
  have u1 := K2.out.cell 1
  have u2 := K2.out.cell 2
  have u3 := K2.out.cell 3
  have u4 := K2.out.cell 4
  have u5 := K2.out.cell 5
  have u6 := K2.out.cell 6
  have u7 := K2.out.cell 7
  simp only [List.getElem?_cons_zero, List.getElem?_cons_succ] at u0 u1 u2 u3 u4 u5 u6 u7
  have f0 := K2.out.free 0
  have lx : w.heap.size < w4.heap.size := K2.out.lt
  rw [eq_sok, eq_sim] at E0
  by_cases h0 : 0 < data.size
  all_goals
    have h0i : (0 : Int) < data.size ∨ ¬ (0 : Int) < data.size := by omega
    cases b1 : (data.toList == [115, 111, 107])
    · cases b2 : (data.toList == [115, 111, 107, 95, 115, 105, 109, 117, 108, 116, 97, 110, 101, 111, 117, 115])
      · have E : Aside (r = ((6, name, cookie, flags, mine, calls, peer, both), [])) := ⟨by rw [E0.out, b1, b2]; rfl⟩
        go_wp2_with fail
        refine region_env [(0, true), (1, true), (2, true), (3, true), (4, true), (5, true), (6, true), (7, true), (8, true), (9, true), (10, true), (11, true), (12, true), (13, true), (14, true), (15, true), (16, true), (17, true), (18, true), (19, true), (20, true), (21, true), (22, true), (23, true), (24, true)] (fun w' => Below w4.heap.size w4 w') 220 rfl (by kernel_rfl) (by kernel_rfl) (fun _ _ d _ _ h => by cases d <;> exact h) ((Below.refl _ _).drew) (fun ops fr HFR HSZ hl => ?_)
        have hl_0 := ops_start hl
        clear hl
        obtain ⟨H0, hl_1⟩ := ops_next 0 1 rfl hl_0
        clear hl_0
        obtain ⟨H1, hl_2⟩ := ops_next 1 2 rfl hl_1
        clear hl_1
        obtain ⟨H2, hl_3⟩ := ops_next 2 3 rfl hl_2
        clear hl_2
        obtain ⟨H3, hl_4⟩ := ops_next 3 4 rfl hl_3
        clear hl_3
        obtain ⟨H4, hl_5⟩ := ops_next 4 5 rfl hl_4
        clear hl_4
        obtain ⟨H5, hl_6⟩ := ops_next 5 6 rfl hl_5
        clear hl_5
        obtain ⟨H6, hl_7⟩ := ops_next 6 7 rfl hl_6
        clear hl_6
        obtain ⟨H7, hl_8⟩ := ops_next 7 8 rfl hl_7
        clear hl_7
        obtain ⟨H8, hl_9⟩ := ops_next 8 9 rfl hl_8
        clear hl_8
        obtain ⟨H9, hl_10⟩ := ops_next 9 10 rfl hl_9
        clear hl_9
        obtain ⟨H10, hl_11⟩ := ops_next 10 11 rfl hl_10
        clear hl_10
        obtain ⟨H11, hl_12⟩ := ops_next 11 12 rfl hl_11
        clear hl_11
        obtain ⟨H12, hl_13⟩ := ops_next 12 13 rfl hl_12
        clear hl_12
        obtain ⟨H13, hl_14⟩ := ops_next 13 14 rfl hl_13
        clear hl_13
        obtain ⟨H14, hl_15⟩ := ops_next 14 15 rfl hl_14
        clear hl_14
        obtain ⟨H15, hl_16⟩ := ops_next 15 16 rfl hl_15
        clear hl_15
        obtain ⟨H16, hl_17⟩ := ops_next 16 17 rfl hl_16
        clear hl_16
        obtain ⟨H17, hl_18⟩ := ops_next 17 18 rfl hl_17
        clear hl_17
        obtain ⟨H18, hl_19⟩ := ops_next 18 19 rfl hl_18
        clear hl_18
        obtain ⟨H19, hl_20⟩ := ops_next 19 20 rfl hl_19
        clear hl_19
        obtain ⟨H20, hl_21⟩ := ops_next 20 21 rfl hl_20
        clear hl_20
        obtain ⟨H21, hl_22⟩ := ops_next 21 22 rfl hl_21
        clear hl_21
        obtain ⟨H22, hl_23⟩ := ops_next 22 23 rfl hl_22
        clear hl_22
        obtain ⟨H23, hl_24⟩ := ops_next 23 24 rfl hl_23
        clear hl_23
        obtain ⟨H24, hl_25⟩ := ops_next 24 25 rfl hl_24
        clear hl_24
        clear hl_25
        have x_2 : ext fr 2 = _ := congrArg (fun a => Act.eval a (.tmp 2)) HFR.out
        conv at x_2 => rhs; simp only [Act.eval, Array.getD_eq_getD_getElem?, List.getElem?_toArray, List.getElem?_cons_succ, List.getElem?_cons_zero, Option.getD_some]
        refine env_yes HSZ H0.out ?_ (fun w' hS => ?_) ?_
        rotate_left
        (go_simp
         rfl)
        refine env_yes HSZ H1.out ?_ (fun w' hS => ?_) ?_
        rotate_left
        (have h := (hS.cell (p := ⟨w.heap.size, 0, none⟩) lx).trans u0
         go_simp
         rfl)
        refine env_yes HSZ H2.out ?_ (fun w' hS => ?_) ?_
        rotate_left
        (go_simp
         rfl)
        refine env_yes HSZ H3.out ?_ (fun w' hS => ?_) ?_
        rotate_left
        (go_simp
         rfl)
        refine env_off HSZ H4.out H3.out (by first | rfl | go_simp) ?_
        refine env_off HSZ H5.out H3.out (by first | rfl | go_simp) ?_
        refine env_yes HSZ H6.out ?_ (fun w' hS => ?_) ?_
        rotate_left
        (go_simp
         rfl)
        refine env_yes HSZ H7.out ?_ (fun w' hS => ?_) ?_
        rotate_left
        (go_simp
         rfl)
        refine env_off HSZ H8.out H7.out (by first | rfl | go_simp) ?_
        refine env_off HSZ H9.out H7.out (by first | rfl | go_simp) ?_
        refine env_off HSZ H10.out H7.out (by first | rfl | go_simp) ?_
        refine env_yes HSZ H11.out ?_ (fun w' hS => ?_) ?_
        rotate_left
        (go_simp
         rfl)
        refine env_yes HSZ H12.out ?_ (fun w' hS => ?_) ?_
        rotate_left
        (go_simp
         rfl)
        refine env_off HSZ H13.out H12.out (by first | rfl | go_simp) ?_
        refine env_off HSZ H14.out H12.out (by first | rfl | go_simp) ?_
        refine env_off HSZ H15.out H12.out (by first | rfl | go_simp) ?_
        refine env_yes HSZ H16.out ?_ (fun w' hS => ?_) ?_
        rotate_left
        (go_simp
         rfl)
        refine env_yes HSZ H17.out ?_ (fun w' hS => ?_) ?_
        rotate_left
        (go_simp
         rfl)
        refine env_off HSZ H18.out H17.out (by first | rfl | go_simp) ?_
        refine env_off HSZ H19.out H17.out (by first | rfl | go_simp) ?_
        refine env_off HSZ H20.out H17.out (by first | rfl | go_simp) ?_
        refine env_off HSZ H21.out H17.out (by first | rfl | go_simp) ?_
        refine env_off HSZ H22.out H17.out (by first | rfl | go_simp) ?_
        refine env_yes HSZ H23.out ?_ (fun w' hS => ?_) ?_
        rotate_left
        (go_simp
         rfl)
        refine env_yes HSZ H24.out ?_ (fun w' hS => ?_) ?_
        rotate_left
        (go_simp
         rfl)
        refine env_end ?_
        have hfr := HFR.out
        clear HFR HSZ H0 H1 H2 H3 H4 H5 H6 H7 H8 H9 H10 H11 H12 H13 H14 H15 H16 H17 H18 H19 H20 H21 H22 H23 H24 x_2
        subst hfr
        simp only [putAll, Act.put, List.setIfInBounds_toArray, List.set_cons_succ, List.set_cons_zero]
        have K2n : Aside (Blk w4.drew w.heap.size _ _) := ⟨K2.out⟩
        have K4n : Aside (Blk w4.drew (w.heap.size + 1) _ _) := ⟨K4.out⟩
        have BLn := Aside.mk BL.out.drew
        clear u0 u1 u2 u3 u4 u5 u6 u7 f0 lx K2 K4 BL
        generalize w4.drew = w5 at K2n K4n BLn ⊢
        have K2 := K2n
        have K4 := K4n
        have BL := BLn
        clear K2n K4n BLn
        have u0 := K2.out.cell 0
        have u1 := K2.out.cell 1
        have u2 := K2.out.cell 2
        have u3 := K2.out.cell 3
        have u4 := K2.out.cell 4
        have u5 := K2.out.cell 5
        have u6 := K2.out.cell 6
        have u7 := K2.out.cell 7
        simp only [List.getElem?_cons_zero, List.getElem?_cons_succ] at u0 u1 u2 u3 u4 u5 u6 u7
        have f0 := K2.out.free 0
        have lx : w.heap.size < w5.heap.size := K2.out.lt
        go_wp2_with fail
        refine region_env [(0, true), (1, true), (2, true), (3, true), (4, true), (5, true), (6, true), (7, true), (8, true), (9, true), (10, true), (11, true), (12, true), (13, true), (14, true), (15, true), (16, true), (17, true), (18, true), (19, true), (20, true), (21, true), (22, true), (23, true)] (fun w' => Below w5.heap.size w5 w') 220 rfl (by kernel_rfl) (by kernel_rfl) (fun _ _ d _ _ h => by cases d <;> exact h) ((Below.refl _ _).drew) (fun ops fr HFR HSZ hl => ?_)
        have hl_0 := ops_start hl
        clear hl
        obtain ⟨H0, hl_1⟩ := ops_next 0 1 rfl hl_0
        clear hl_0
        obtain ⟨H1, hl_2⟩ := ops_next 1 2 rfl hl_1
        clear hl_1
        obtain ⟨H2, hl_3⟩ := ops_next 2 3 rfl hl_2
        clear hl_2
        obtain ⟨H3, hl_4⟩ := ops_next 3 4 rfl hl_3
        clear hl_3
        obtain ⟨H4, hl_5⟩ := ops_next 4 5 rfl hl_4
        clear hl_4
        obtain ⟨H5, hl_6⟩ := ops_next 5 6 rfl hl_5
        clear hl_5
        obtain ⟨H6, hl_7⟩ := ops_next 6 7 rfl hl_6
        clear hl_6
        obtain ⟨H7, hl_8⟩ := ops_next 7 8 rfl hl_7
        clear hl_7
        obtain ⟨H8, hl_9⟩ := ops_next 8 9 rfl hl_8
        clear hl_8
        obtain ⟨H9, hl_10⟩ := ops_next 9 10 rfl hl_9
        clear hl_9
        obtain ⟨H10, hl_11⟩ := ops_next 10 11 rfl hl_10
        clear hl_10
        obtain ⟨H11, hl_12⟩ := ops_next 11 12 rfl hl_11
        clear hl_11
        obtain ⟨H12, hl_13⟩ := ops_next 12 13 rfl hl_12
        clear hl_12
        obtain ⟨H13, hl_14⟩ := ops_next 13 14 rfl hl_13
        clear hl_13
        obtain ⟨H14, hl_15⟩ := ops_next 14 15 rfl hl_14
        clear hl_14
        obtain ⟨H15, hl_16⟩ := ops_next 15 16 rfl hl_15
        clear hl_15
        obtain ⟨H16, hl_17⟩ := ops_next 16 17 rfl hl_16
        clear hl_16
        obtain ⟨H17, hl_18⟩ := ops_next 17 18 rfl hl_17
        clear hl_17
        obtain ⟨H18, hl_19⟩ := ops_next 18 19 rfl hl_18
        clear hl_18
        obtain ⟨H19, hl_20⟩ := ops_next 19 20 rfl hl_19
        clear hl_19
        obtain ⟨H20, hl_21⟩ := ops_next 20 21 rfl hl_20
        clear hl_20
        obtain ⟨H21, hl_22⟩ := ops_next 21 22 rfl hl_21
        clear hl_21
        obtain ⟨H22, hl_23⟩ := ops_next 22 23 rfl hl_22
        clear hl_22
        obtain ⟨H23, hl_24⟩ := ops_next 23 24 rfl hl_23
        clear hl_23
        clear hl_24
        have x_2 : ext fr 2 = _ := congrArg (fun a => Act.eval a (.tmp 2)) HFR.out
        conv at x_2 => rhs; simp only [Act.eval, Array.getD_eq_getD_getElem?, List.getElem?_toArray, List.getElem?_cons_succ, List.getElem?_cons_zero, Option.getD_some]
        refine env_yes HSZ H0.out ?_ (fun w' hS => ?_) ?_
        rotate_left
        (go_simp
         rfl)
        refine env_yes HSZ H1.out ?_ (fun w' hS => ?_) ?_
        rotate_left
        (have h := (hS.cell (p := ⟨w.heap.size, 0, none⟩) lx).trans u0
         go_simp
         rfl)
        refine env_yes HSZ H2.out ?_ (fun w' hS => ?_) ?_
        rotate_left
        (go_simp
         rfl)
        refine env_yes HSZ H3.out ?_ (fun w' hS => ?_) ?_
        rotate_left
        (go_simp
         rfl)
        refine env_off HSZ H4.out H3.out (by first | rfl | go_simp) ?_
        refine env_off HSZ H5.out H3.out (by first | rfl | go_simp) ?_
        refine env_yes HSZ H6.out ?_ (fun w' hS => ?_) ?_
        rotate_left
        (go_simp
         rfl)
        refine env_yes HSZ H7.out ?_ (fun w' hS => ?_) ?_
        rotate_left
        (go_simp
         rfl)
        refine env_off HSZ H8.out H7.out (by first | rfl | go_simp) ?_
        refine env_off HSZ H9.out H7.out (by first | rfl | go_simp) ?_
        refine env_off HSZ H10.out H7.out (by first | rfl | go_simp) ?_
        refine env_yes HSZ H11.out ?_ (fun w' hS => ?_) ?_
        rotate_left
        (go_simp
         rfl)
        refine env_yes HSZ H12.out ?_ (fun w' hS => ?_) ?_
        rotate_left
        (go_simp
         rfl)
        refine env_off HSZ H13.out H12.out (by first | rfl | go_simp) ?_
        refine env_off HSZ H14.out H12.out (by first | rfl | go_simp) ?_
        refine env_off HSZ H15.out H12.out (by first | rfl | go_simp) ?_
        refine env_off HSZ H16.out H12.out (by first | rfl | go_simp) ?_
        refine env_off HSZ H17.out H12.out (by first | rfl | go_simp) ?_
        refine env_off HSZ H18.out H12.out (by first | rfl | go_simp) ?_
        refine env_off HSZ H19.out H12.out (by first | rfl | go_simp) ?_
        refine env_off HSZ H20.out H12.out (by first | rfl | go_simp) ?_
        refine env_off HSZ H21.out H12.out (by first | rfl | go_simp) ?_
        refine env_yes HSZ H22.out ?_ (fun w' hS => ?_) ?_
        rotate_left
        (go_simp
         rfl)
        refine env_yes HSZ H23.out ?_ (fun w' hS => ?_) ?_
        rotate_left
        (go_simp
         rfl)
        refine env_end ?_
        have hfr := HFR.out
        clear HFR HSZ H0 H1 H2 H3 H4 H5 H6 H7 H8 H9 H10 H11 H12 H13 H14 H15 H16 H17 H18 H19 H20 H21 H22 H23 x_2
        subst hfr
        simp only [putAll, Act.put, List.setIfInBounds_toArray, List.set_cons_succ, List.set_cons_zero]
        have K2n : Aside (Blk w5.drew w.heap.size _ _) := ⟨K2.out⟩
        have K4n : Aside (Blk w5.drew (w.heap.size + 1) _ _) := ⟨K4.out⟩
        have BLn := Aside.mk BL.out.drew
        clear u0 u1 u2 u3 u4 u5 u6 u7 f0 lx K2 K4 BL
        generalize w5.drew = w6 at K2n K4n BLn ⊢
        have K2 := K2n
        have K4 := K4n
        have BL := BLn
        clear K2n K4n BLn
        have u0 := K2.out.cell 0
        have u1 := K2.out.cell 1
        have u2 := K2.out.cell 2
        have u3 := K2.out.cell 3
        have u4 := K2.out.cell 4
        have u5 := K2.out.cell 5
        have u6 := K2.out.cell 6
        have u7 := K2.out.cell 7
        simp only [List.getElem?_cons_zero, List.getElem?_cons_succ] at u0 u1 u2 u3 u4 u5 u6 u7
        have f0 := K2.out.free 0
        have lx : w.heap.size < w6.heap.size := K2.out.lt
        go_wp2_with fail
        refine region_env [(0, true), (1, true), (2, true), (3, true), (4, true), (5, true), (6, true), (7, true), (8, true), (9, true), (10, true), (11, true), (12, true), (13, true), (14, true), (15, true), (16, true), (17, true), (18, true), (19, true), (20, true), (21, true), (22, true), (23, true)] (fun w' => Below w6.heap.size w6 w') 220 rfl (by kernel_rfl) (by kernel_rfl) (fun _ _ d _ _ h => by cases d <;> exact h) ((Below.refl _ _).drew) (fun ops fr HFR HSZ hl => ?_)
        have hl_0 := ops_start hl
        clear hl
        obtain ⟨H0, hl_1⟩ := ops_next 0 1 rfl hl_0
        clear hl_0
        obtain ⟨H1, hl_2⟩ := ops_next 1 2 rfl hl_1
        clear hl_1
        obtain ⟨H2, hl_3⟩ := ops_next 2 3 rfl hl_2
        clear hl_2
        obtain ⟨H3, hl_4⟩ := ops_next 3 4 rfl hl_3
        clear hl_3
        obtain ⟨H4, hl_5⟩ := ops_next 4 5 rfl hl_4
        clear hl_4
        obtain ⟨H5, hl_6⟩ := ops_next 5 6 rfl hl_5
        clear hl_5
        obtain ⟨H6, hl_7⟩ := ops_next 6 7 rfl hl_6
        clear hl_6
        obtain ⟨H7, hl_8⟩ := ops_next 7 8 rfl hl_7
        clear hl_7
        obtain ⟨H8, hl_9⟩ := ops_next 8 9 rfl hl_8
        clear hl_8
        obtain ⟨H9, hl_10⟩ := ops_next 9 10 rfl hl_9
        clear hl_9
        obtain ⟨H10, hl_11⟩ := ops_next 10 11 rfl hl_10
        clear hl_10
        obtain ⟨H11, hl_12⟩ := ops_next 11 12 rfl hl_11
        clear hl_11
        obtain ⟨H12, hl_13⟩ := ops_next 12 13 rfl hl_12
        clear hl_12
        obtain ⟨H13, hl_14⟩ := ops_next 13 14 rfl hl_13
        clear hl_13
        obtain ⟨H14, hl_15⟩ := ops_next 14 15 rfl hl_14
        clear hl_14
        obtain ⟨H15, hl_16⟩ := ops_next 15 16 rfl hl_15
        clear hl_15
        obtain ⟨H16, hl_17⟩ := ops_next 16 17 rfl hl_16
        clear hl_16
        obtain ⟨H17, hl_18⟩ := ops_next 17 18 rfl hl_17
        clear hl_17
        obtain ⟨H18, hl_19⟩ := ops_next 18 19 rfl hl_18
        clear hl_18
        obtain ⟨H19, hl_20⟩ := ops_next 19 20 rfl hl_19
        clear hl_19
        obtain ⟨H20, hl_21⟩ := ops_next 20 21 rfl hl_20
        clear hl_20
        obtain ⟨H21, hl_22⟩ := ops_next 21 22 rfl hl_21
        clear hl_21
        obtain ⟨H22, hl_23⟩ := ops_next 22 23 rfl hl_22
        clear hl_22
        obtain ⟨H23, hl_24⟩ := ops_next 23 24 rfl hl_23
        clear hl_23
        clear hl_24
        have x_2 : ext fr 2 = _ := congrArg (fun a => Act.eval a (.tmp 2)) HFR.out
        conv at x_2 => rhs; simp only [Act.eval, Array.getD_eq_getD_getElem?, List.getElem?_toArray, List.getElem?_cons_succ, List.getElem?_cons_zero, Option.getD_some]
        refine env_yes HSZ H0.out ?_ (fun w' hS => ?_) ?_
        rotate_left
        (go_simp
         rfl)
        refine env_yes HSZ H1.out ?_ (fun w' hS => ?_) ?_
        rotate_left
        (have h := (hS.cell (p := ⟨w.heap.size, 0, none⟩) lx).trans u0
         go_simp
         rfl)
        refine env_yes HSZ H2.out ?_ (fun w' hS => ?_) ?_
        rotate_left
        (go_simp
         rfl)
        refine env_yes HSZ H3.out ?_ (fun w' hS => ?_) ?_
        rotate_left
        (go_simp
         rfl)
        refine env_off HSZ H4.out H3.out (by first | rfl | go_simp) ?_
        refine env_off HSZ H5.out H3.out (by first | rfl | go_simp) ?_
        refine env_yes HSZ H6.out ?_ (fun w' hS => ?_) ?_
        rotate_left
        (go_simp
         rfl)
        refine env_yes HSZ H7.out ?_ (fun w' hS => ?_) ?_
        rotate_left
        (go_simp
         rfl)
        refine env_off HSZ H8.out H7.out (by first | rfl | go_simp) ?_
        refine env_off HSZ H9.out H7.out (by first | rfl | go_simp) ?_
        refine env_off HSZ H10.out H7.out (by first | rfl | go_simp) ?_
        refine env_yes HSZ H11.out ?_ (fun w' hS => ?_) ?_
        rotate_left
        (go_simp
         rfl)
        refine env_yes HSZ H12.out ?_ (fun w' hS => ?_) ?_
        rotate_left
        (go_simp
         rfl)
        refine env_off HSZ H13.out H12.out (by first | rfl | go_simp) ?_
        refine env_off HSZ H14.out H12.out (by first | rfl | go_simp) ?_
        refine env_off HSZ H15.out H12.out (by first | rfl | go_simp) ?_
        refine env_off HSZ H16.out H12.out (by first | rfl | go_simp) ?_
        refine env_off HSZ H17.out H12.out (by first | rfl | go_simp) ?_
        refine env_off HSZ H18.out H12.out (by first | rfl | go_simp) ?_
        refine env_off HSZ H19.out H12.out (by first | rfl | go_simp) ?_
        refine env_off HSZ H20.out H12.out (by first | rfl | go_simp) ?_
        refine env_off HSZ H21.out H12.out (by first | rfl | go_simp) ?_
        refine env_yes HSZ H22.out ?_ (fun w' hS => ?_) ?_
        rotate_left
        (go_simp
         rfl)
        refine env_yes HSZ H23.out ?_ (fun w' hS => ?_) ?_
        rotate_left
        (go_simp
         rfl)
        refine env_end ?_
        have hfr := HFR.out
        clear HFR HSZ H0 H1 H2 H3 H4 H5 H6 H7 H8 H9 H10 H11 H12 H13 H14 H15 H16 H17 H18 H19 H20 H21 H22 H23 x_2
        subst hfr
        simp only [putAll, Act.put, List.setIfInBounds_toArray, List.set_cons_succ, List.set_cons_zero]
        have K2n : Aside (Blk w6.drew w.heap.size _ _) := ⟨K2.out⟩
        have K4n : Aside (Blk w6.drew (w.heap.size + 1) _ _) := ⟨K4.out⟩
        have BLn := Aside.mk BL.out.drew
        clear u0 u1 u2 u3 u4 u5 u6 u7 f0 lx K2 K4 BL
        generalize w6.drew = w7 at K2n K4n BLn ⊢
        have K2 := K2n
        have K4 := K4n
        have BL := BLn
        clear K2n K4n BLn
        have u0 := K2.out.cell 0
        have u1 := K2.out.cell 1
        have u2 := K2.out.cell 2
        have u3 := K2.out.cell 3
        have u4 := K2.out.cell 4
        have u5 := K2.out.cell 5
        have u6 := K2.out.cell 6
        have u7 := K2.out.cell 7
        simp only [List.getElem?_cons_zero, List.getElem?_cons_succ] at u0 u1 u2 u3 u4 u5 u6 u7
        have f0 := K2.out.free 0
        have lx : w.heap.size < w7.heap.size := K2.out.lt
        have K2s : Aside (Blk (w7.setCell ⟨w.heap.size, 0, none⟩ (.int .i64 6)) w.heap.size 27 [.int .i64 6, .string name, .string cookie, .int .i64 flags, .int .i64 mine, .string calls, .string peer, .int .i64 both]) := ⟨K2.out.set 0 _⟩
        have K4s : Aside (Blk (w7.setCell ⟨w.heap.size, 0, none⟩ (.int .i64 6)) (w.heap.size + 1) 27 [.int .i64 0, .string ⟨#[]⟩, .string ⟨#[]⟩, .int .i64 0, .int .i64 0, .string ⟨#[]⟩, .string ⟨#[]⟩, .int .i64 0]) := ⟨K4.out.far (show w.heap.size + 1 ≠ w.heap.size by omega) _⟩
        have BLs : Aside (Below w.heap.size w (w7.setCell ⟨w.heap.size, 0, none⟩ (.int .i64 6))) := ⟨BL.out.setCell (Nat.le_refl _) _⟩
        have v0 := K2s.out.cell 0
        have v1 := K2s.out.cell 1
        have v2 := K2s.out.cell 2
        have v3 := K2s.out.cell 3
        have v4 := K2s.out.cell 4
        have v5 := K2s.out.cell 5
        have v6 := K2s.out.cell 6
        have v7 := K2s.out.cell 7
        simp only [List.getElem?_cons_zero, List.getElem?_cons_succ] at v0 v1 v2 v3 v4 v5 v6 v7
        go_wp2_with (refine wpList_store_blk rfl 27 _ _ rfl (w.heap.size + 1) [.int .i64 6, .string name, .string cookie, .int .i64 flags, .int .i64 mine, .string calls, .string peer, .int .i64 both] rfl rfl 27 [.int .i64 0, .string ⟨#[]⟩, .string ⟨#[]⟩, .int .i64 0, .int .i64 0, .string ⟨#[]⟩, .string ⟨#[]⟩, .int .i64 0] (K4s.out) (by kernel_rfl) rfl rfl ?_; intro w9 k9 hg9; have K9 := Aside.mk k9; have B9 := Aside.mk (below_grown (BLs.out) hg9 (by omega)); clear k9 hg9)
        refine bodyPost_ret (res_ctt rfl _ _ (w.heap.size + 1) 27 [.int .i64 6, .string name, .string cookie, .int .i64 flags, .int .i64 mine, .string calls, .string peer, .int .i64 both] _ rfl K9.out Tryd.underlying27 rfl (by kernel_rfl)) rfl ⟨.slice (some ⟨w.heap.size + 2, 0, none⟩) 0 0, by rw [E.out]; rfl, by rw [E.out]; exact strs_nil _ _ _, B9.out⟩
      · have E : Aside (r = ((2, name, cookie, flags, mine, calls, peer, both), [])) := ⟨by rw [E0.out, b2, Bool.or_true]; rfl⟩
        have K2s : Aside (Blk (w4.setCell ⟨w.heap.size, 0, none⟩ (.int .i64 2)) w.heap.size 27 [.int .i64 2, .string name, .string cookie, .int .i64 flags, .int .i64 mine, .string calls, .string peer, .int .i64 both]) := ⟨K2.out.set 0 _⟩
        have K4s : Aside (Blk (w4.setCell ⟨w.heap.size, 0, none⟩ (.int .i64 2)) (w.heap.size + 1) 27 [.int .i64 0, .string ⟨#[]⟩, .string ⟨#[]⟩, .int .i64 0, .int .i64 0, .string ⟨#[]⟩, .string ⟨#[]⟩, .int .i64 0]) := ⟨K4.out.far (show w.heap.size + 1 ≠ w.heap.size by omega) _⟩
        have BLs : Aside (Below w.heap.size w (w4.setCell ⟨w.heap.size, 0, none⟩ (.int .i64 2))) := ⟨BL.out.setCell (Nat.le_refl _) _⟩
        have v0 := K2s.out.cell 0
        have v1 := K2s.out.cell 1
        have v2 := K2s.out.cell 2
        have v3 := K2s.out.cell 3
        have v4 := K2s.out.cell 4
        have v5 := K2s.out.cell 5
        have v6 := K2s.out.cell 6
        have v7 := K2s.out.cell 7
        simp only [List.getElem?_cons_zero, List.getElem?_cons_succ] at v0 v1 v2 v3 v4 v5 v6 v7
        go_wp2_with (refine wpList_store_blk rfl 27 _ _ rfl (w.heap.size + 1) [.int .i64 2, .string name, .string cookie, .int .i64 flags, .int .i64 mine, .string calls, .string peer, .int .i64 both] rfl rfl 27 [.int .i64 0, .string ⟨#[]⟩, .string ⟨#[]⟩, .int .i64 0, .int .i64 0, .string ⟨#[]⟩, .string ⟨#[]⟩, .int .i64 0] (K4s.out) (by kernel_rfl) rfl rfl ?_; intro w9 k9 hg9; have K9 := Aside.mk k9; have B9 := Aside.mk (below_grown (BLs.out) hg9 (by omega)); clear k9 hg9)
        refine bodyPost_ret (res_ctt rfl _ _ (w.heap.size + 1) 27 [.int .i64 2, .string name, .string cookie, .int .i64 flags, .int .i64 mine, .string calls, .string peer, .int .i64 both] _ rfl K9.out Tryd.underlying27 rfl (by kernel_rfl)) rfl ⟨.slice (some ⟨w.heap.size + 2, 0, none⟩) 0 0, by rw [E.out]; rfl, by rw [E.out]; exact strs_nil _ _ _, B9.out⟩
    · have E : Aside (r = ((2, name, cookie, flags, mine, calls, peer, both), [])) := ⟨by rw [E0.out, b1]; rfl⟩
      have K2s : Aside (Blk (w4.setCell ⟨w.heap.size, 0, none⟩ (.int .i64 2)) w.heap.size 27 [.int .i64 2, .string name, .string cookie, .int .i64 flags, .int .i64 mine, .string calls, .string peer, .int .i64 both]) := ⟨K2.out.set 0 _⟩
      have K4s : Aside (Blk (w4.setCell ⟨w.heap.size, 0, none⟩ (.int .i64 2)) (w.heap.size + 1) 27 [.int .i64 0, .string ⟨#[]⟩, .string ⟨#[]⟩, .int .i64 0, .int .i64 0, .string ⟨#[]⟩, .string ⟨#[]⟩, .int .i64 0]) := ⟨K4.out.far (show w.heap.size + 1 ≠ w.heap.size by omega) _⟩
      have BLs : Aside (Below w.heap.size w (w4.setCell ⟨w.heap.size, 0, none⟩ (.int .i64 2))) := ⟨BL.out.setCell (Nat.le_refl _) _⟩
      have v0 := K2s.out.cell 0
      have v1 := K2s.out.cell 1
      have v2 := K2s.out.cell 2
      have v3 := K2s.out.cell 3
      have v4 := K2s.out.cell 4
      have v5 := K2s.out.cell 5
      have v6 := K2s.out.cell 6
      have v7 := K2s.out.cell 7
      simp only [List.getElem?_cons_zero, List.getElem?_cons_succ] at v0 v1 v2 v3 v4 v5 v6 v7
      go_wp2_with (refine wpList_store_blk rfl 27 _ _ rfl (w.heap.size + 1) [.int .i64 2, .string name, .string cookie, .int .i64 flags, .int .i64 mine, .string calls, .string peer, .int .i64 both] rfl rfl 27 [.int .i64 0, .string ⟨#[]⟩, .string ⟨#[]⟩, .int .i64 0, .int .i64 0, .string ⟨#[]⟩, .string ⟨#[]⟩, .int .i64 0] (K4s.out) (by kernel_rfl) rfl rfl ?_; intro w9 k9 hg9; have K9 := Aside.mk k9; have B9 := Aside.mk (below_grown (BLs.out) hg9 (by omega)); clear k9 hg9)
      refine bodyPost_ret (res_ctt rfl _ _ (w.heap.size + 1) 27 [.int .i64 2, .string name, .string cookie, .int .i64 flags, .int .i64 mine, .string calls, .string peer, .int .i64 both] _ rfl K9.out Tryd.underlying27 rfl (by kernel_rfl)) rfl ⟨.slice (some ⟨w.heap.size + 2, 0, none⟩) 0 0, by rw [E.out]; rfl, by rw [E.out]; exact strs_nil _ _ _, B9.out⟩
end Go.Proofs.YtlopbheahedofaaDoor.Fn
