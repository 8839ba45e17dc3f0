/- Walk of the reference's HandStep: state 0, refusals. Conditions: those of each theorem. -/
import Derived.Test.YtlopbheahedofaaDoorHs11
import Derived.Test.YtlopbheahedofaaDoorHs7
set_option linter.unusedVariables false
namespace Go.Proofs.YtlopbheahedofaaDoor.Fn
open Go Go.RowKit Go.Proofs.YtlopbheahedofaaDoor.Lib Go.Proofs.YtlopbheahedofaaDoor.Plan
attribute [local go_sem] look_tmp look_const look_func look_global lookT_nil lookT_hit lookT_miss

theorem sStep0_eq (name cookie : ByteArray) (flags mine : Int) (calls peer : ByteArray) (both : Int) (data : ByteArray) : hearsR 0 name cookie flags mine calls peer both data = if hello data 78 3 then (if eqS (data.extract 3 data.size) name then ((6, name, cookie, flags, mine, calls, peer, both), [⟨#[115, 110, 111, 116, 95, 97, 108, 108, 111, 119, 101, 100]⟩]) else if eqS (data.extract 3 data.size) calls && gtS name (data.extract 3 data.size) then ((6, name, cookie, flags, mine, calls, peer, both), [⟨#[115, 110, 111, 107]⟩]) else ((3, name, cookie, flags, mine, calls, data.extract 3 data.size, bits .and .i64 flags (numB (data.extract 1 3))), [if eqS (data.extract 3 data.size) calls then ⟨#[115, 111, 107, 95, 115, 105, 109, 117, 108, 116, 97, 110, 101, 111, 117, 115]⟩ else ⟨#[115, 111, 107]⟩, ((⟨#[67]⟩ ++ bes 2 flags) ++ bes 4 mine) ++ name])) else ((6, name, cookie, flags, mine, calls, peer, both), []) := rfl
set_option maxRecDepth 100000 in
set_option maxHeartbeats 8000000 in
theorem sStep0a (name cookie : ByteArray) (flags mine : Int) (calls peer : ByteArray) (both : Int) (data : ByteArray) (w : World) (hn : name.size ≤ 1048576) (hc : cookie.size ≤ 100) (hf0 : 0 ≤ flags) (hf1 : flags ≤ 65535) (hm0 : 0 ≤ mine) (hm1 : mine ≤ 4294967295) (hca : calls.size ≤ 1048576) (hpe : peer.size ≤ 1048576) (hd : data.size ≤ 1048576) (hb : handB 0 name cookie flags mine calls peer both = true) (h0 : ¬ 0 < data.size) :
    Calls Tryd.prog 13 #[.agg #[.int .i64 0, .string name, .string cookie, .int .i64 flags, .int .i64 mine, .string calls, .string peer, .int .i64 both], .string data] w (StepOK w (hearsR 0 name cookie flags mine calls peer both data) 0) := by
  have E : Aside (hearsR 0 name cookie flags mine calls peer both data = ((6, name, cookie, flags, mine, calls, peer, both), [])) := ⟨by rw [sStep0_eq, hello, head_none _ h0]; rfl⟩
  generalize hearsR 0 name cookie flags mine calls peer both data = r at E ⊢
  have h0i : ¬ (0 : Int) < data.size := by omega
  have HB := Aside.mk hb
  clear hb
  go_enter Tryd.func13, Tryd.ntmps13
  go_wp2_with fail
  obtain ⟨w3, hw3⟩ : ∃ x, x = ((w.alloc (.cells #[.int .i64 0, .string name, .string cookie, .int .i64 flags, .int .i64 mine, .string calls, .string peer, .int .i64 both] 27)).alloc (.cells #[.int .i64 0, .string ⟨#[]⟩, .string ⟨#[]⟩, .int .i64 0, .int .i64 0, .string ⟨#[]⟩, .string ⟨#[]⟩, .int .i64 0] 27)).alloc (.cells #[] 9) := ⟨_, rfl⟩
  rw [← hw3]
  have K2 : Aside (Blk w3 w.heap.size 27 [.int .i64 0, .string name, .string cookie, .int .i64 flags, .int .i64 mine, .string calls, .string peer, .int .i64 both]) := ⟨by rw [hw3]; exact ((Blk.new w 27 [.int .i64 0, .string name, .string cookie, .int .i64 flags, .int .i64 mine, .string calls, .string peer, .int .i64 both]).alloc _).alloc _⟩
  have K4 : Aside (Blk w3 (w.heap.size + 1) 27 [.int .i64 0, .string ⟨#[]⟩, .string ⟨#[]⟩, .int .i64 0, .int .i64 0, .string ⟨#[]⟩, .string ⟨#[]⟩, .int .i64 0]) := ⟨by rw [hw3]; exact (Blk.made (w.alloc _) 27 [.int .i64 0, .string ⟨#[]⟩, .string ⟨#[]⟩, .int .i64 0, .int .i64 0, .string ⟨#[]⟩, .string ⟨#[]⟩, .int .i64 0] (by simp)).alloc _⟩
  have BL : Aside (Below w.heap.size w w3) := ⟨by rw [hw3]; go_grown⟩
  clear hw3
  refine (l13Hand 0 name cookie flags mine calls peer both w3 (by omega) (by omega) (by omega) (by omega)).mono ?_
  rintro e w4 ⟨rfl, hb⟩
  rw [HB.out]
  have K2n := Aside.mk (K2.out.below hb)
  have K4n := Aside.mk (K4.out.below hb)
  have BLn := Aside.mk (below_later BL.out hb)
  clear K2 K4 BL
  have K2 := K2n
  have K4 := K4n
  have BL := BLn
  clear BLn K2n K4n
  clear hb HB
  have u0 := K2.out.cell 0
  have u1 := K2.out.cell 1
  have u2 := K2.out.cell 2
  have u3 := K2.out.cell 3
  have u4 := K2.out.cell 4
  have u5 := K2.out.cell 5
  have u6 := K2.out.cell 6
  have u7 := K2.out.cell 7
  simp only [List.getElem?_cons_zero, List.getElem?_cons_succ] at u0 u1 u2 u3 u4 u5 u6 u7
  have f0 := K2.out.free 0
  have lx : w.heap.size < w4.heap.size := K2.out.lt
  go_wp2_with fail
  refine region_env [(0, true), (1, true), (2, true), (3, true), (4, true), (5, true), (6, true), (7, true), (8, true), (9, true), (10, true), (11, true), (12, true), (13, true), (14, true), (15, true), (16, true), (17, true), (18, true), (19, true), (20, true), (21, true), (22, true), (23, true), (24, true)] (fun w' => Below w4.heap.size w4 w') 220 rfl (by kernel_rfl) (by kernel_rfl) (fun _ _ d _ _ h => by cases d <;> exact h) ((Below.refl _ _).drew) (fun ops fr HFR HSZ hl => ?_)
  have hl_0 := ops_start hl
  clear hl
  obtain ⟨H0, hl_1⟩ := ops_next 0 1 rfl hl_0
  clear hl_0
  obtain ⟨H1, hl_2⟩ := ops_next 1 2 rfl hl_1
  clear hl_1
  obtain ⟨H2, hl_3⟩ := ops_next 2 3 rfl hl_2
  clear hl_2
  obtain ⟨H3, hl_4⟩ := ops_next 3 4 rfl hl_3
  clear hl_3
  obtain ⟨H4, hl_5⟩ := ops_next 4 5 rfl hl_4
  clear hl_4
  obtain ⟨H5, hl_6⟩ := ops_next 5 6 rfl hl_5
  clear hl_5
  obtain ⟨H6, hl_7⟩ := ops_next 6 7 rfl hl_6
  clear hl_6
  obtain ⟨H7, hl_8⟩ := ops_next 7 8 rfl hl_7
  clear hl_7
  obtain ⟨H8, hl_9⟩ := ops_next 8 9 rfl hl_8
  clear hl_8
  obtain ⟨H9, hl_10⟩ := ops_next 9 10 rfl hl_9
  clear hl_9
  obtain ⟨H10, hl_11⟩ := ops_next 10 11 rfl hl_10
  clear hl_10
  obtain ⟨H11, hl_12⟩ := ops_next 11 12 rfl hl_11
  clear hl_11
  obtain ⟨H12, hl_13⟩ := ops_next 12 13 rfl hl_12
  clear hl_12
  obtain ⟨H13, hl_14⟩ := ops_next 13 14 rfl hl_13
  clear hl_13
  obtain ⟨H14, hl_15⟩ := ops_next 14 15 rfl hl_14
  clear hl_14
  obtain ⟨H15, hl_16⟩ := ops_next 15 16 rfl hl_15
  clear hl_15
  obtain ⟨H16, hl_17⟩ := ops_next 16 17 rfl hl_16
  clear hl_16
  obtain ⟨H17, hl_18⟩ := ops_next 17 18 rfl hl_17
  clear hl_17
  obtain ⟨H18, hl_19⟩ := ops_next 18 19 rfl hl_18
  clear hl_18
  obtain ⟨H19, hl_20⟩ := ops_next 19 20 rfl hl_19
  clear hl_19
  obtain ⟨H20, hl_21⟩ := ops_next 20 21 rfl hl_20
  clear hl_20
  obtain ⟨H21, hl_22⟩ := ops_next 21 22 rfl hl_21
  clear hl_21
  obtain ⟨H22, hl_23⟩ := ops_next 22 23 rfl hl_22
  clear hl_22
  obtain ⟨H23, hl_24⟩ := ops_next 23 24 rfl hl_23
  clear hl_23
  obtain ⟨H24, hl_25⟩ := ops_next 24 25 rfl hl_24
  clear hl_24
  clear hl_25
  have x_2 : ext fr 2 = _ := congrArg (fun a => Act.eval a (.tmp 2)) HFR.out
  conv at x_2 => rhs; simp only [Act.eval, Array.getD_eq_getD_getElem?, List.getElem?_toArray, List.getElem?_cons_succ, List.getElem?_cons_zero, Option.getD_some]
  refine env_yes HSZ H0.out ?_ (fun w' hS => ?_) ?_
  rotate_left
  (go_simp
   rfl)
  refine env_yes HSZ H1.out ?_ (fun w' hS => ?_) ?_
  rotate_left
  (have h := (hS.cell (p := ⟨w.heap.size, 0, none⟩) lx).trans u0
   go_simp
   rfl)
  refine env_yes HSZ H2.out ?_ (fun w' hS => ?_) ?_
  rotate_left
  (go_simp
   rfl)
  refine env_yes HSZ H3.out ?_ (fun w' hS => ?_) ?_
  rotate_left
  (go_simp
   rfl)
  refine env_off HSZ H4.out H3.out (by first | rfl | go_simp) ?_
  refine env_off HSZ H5.out H3.out (by first | rfl | go_simp) ?_
  refine env_yes HSZ H6.out ?_ (fun w' hS => ?_) ?_
  rotate_left
  (go_simp
   rfl)
  refine env_yes HSZ H7.out ?_ (fun w' hS => ?_) ?_
  rotate_left
  (go_simp
   rfl)
  refine env_off HSZ H8.out H7.out (by first | rfl | go_simp) ?_
  refine env_off HSZ H9.out H7.out (by first | rfl | go_simp) ?_
  refine env_off HSZ H10.out H7.out (by first | rfl | go_simp) ?_
  refine env_yes HSZ H11.out ?_ (fun w' hS => ?_) ?_
  rotate_left
  (go_simp
   rfl)
  refine env_yes HSZ H12.out ?_ (fun w' hS => ?_) ?_
  rotate_left
  (go_simp
   rfl)
  refine env_off HSZ H13.out H12.out (by first | rfl | go_simp) ?_
  refine env_off HSZ H14.out H12.out (by first | rfl | go_simp) ?_
  refine env_off HSZ H15.out H12.out (by first | rfl | go_simp) ?_
  refine env_yes HSZ H16.out ?_ (fun w' hS => ?_) ?_
  rotate_left
  (go_simp
   rfl)
  refine env_yes HSZ H17.out ?_ (fun w' hS => ?_) ?_
  rotate_left
  (go_simp
   rfl)
  refine env_off HSZ H18.out H17.out (by first | rfl | go_simp) ?_
  refine env_off HSZ H19.out H17.out (by first | rfl | go_simp) ?_
  refine env_off HSZ H20.out H17.out (by first | rfl | go_simp) ?_
  refine env_off HSZ H21.out H17.out (by first | rfl | go_simp) ?_
  refine env_off HSZ H22.out H17.out (by first | rfl | go_simp) ?_
  refine env_yes HSZ H23.out ?_ (fun w' hS => ?_) ?_
  rotate_left
  (go_simp
   rfl)
  refine env_yes HSZ H24.out ?_ (fun w' hS => ?_) ?_
  rotate_left
  (go_simp
   rfl)
  refine env_end ?_
  have hfr := HFR.out
  clear HFR HSZ H0 H1 H2 H3 H4 H5 H6 H7 H8 H9 H10 H11 H12 H13 H14 H15 H16 H17 H18 H19 H20 H21 H22 H23 H24 x_2
  subst hfr
  simp only [putAll, Act.put, List.setIfInBounds_toArray, List.set_cons_succ, List.set_cons_zero]
  have K2n : Aside (Blk w4.drew w.heap.size _ _) := ⟨K2.out⟩
  have K4n : Aside (Blk w4.drew (w.heap.size + 1) _ _) := ⟨K4.out⟩
  have BLn := Aside.mk BL.out.drew
  clear u0 u1 u2 u3 u4 u5 u6 u7 f0 lx K2 K4 BL
  generalize w4.drew = w5 at K2n K4n BLn ⊢
  have K2 := K2n
  have K4 := K4n
  have BL := BLn
  clear K2n K4n BLn
  have u0 := K2.out.cell 0
  have u1 := K2.out.cell 1
  have u2 := K2.out.cell 2
  have u3 := K2.out.cell 3
  have u4 := K2.out.cell 4
  have u5 := K2.out.cell 5
  have u6 := K2.out.cell 6
  have u7 := K2.out.cell 7
  simp only [List.getElem?_cons_zero, List.getElem?_cons_succ] at u0 u1 u2 u3 u4 u5 u6 u7
  have f0 := K2.out.free 0
  have lx : w.heap.size < w5.heap.size := K2.out.lt
  go_wp2_with fail
  refine region_env [(0, true), (1, true), (2, true), (3, true), (4, true), (5, true), (6, true), (7, true), (8, true), (9, true), (10, true), (11, true), (12, true), (13, true), (14, true), (15, true), (16, true), (17, true), (18, true), (19, true), (20, true), (21, true), (22, true), (23, true)] (fun w' => Below w5.heap.size w5 w') 220 rfl (by kernel_rfl) (by kernel_rfl) (fun _ _ d _ _ h => by cases d <;> exact h) ((Below.refl _ _).drew) (fun ops fr HFR HSZ hl => ?_)
  have hl_0 := ops_start hl
  clear hl
  obtain ⟨H0, hl_1⟩ := ops_next 0 1 rfl hl_0
  clear hl_0
  obtain ⟨H1, hl_2⟩ := ops_next 1 2 rfl hl_1
  clear hl_1
  obtain ⟨H2, hl_3⟩ := ops_next 2 3 rfl hl_2
  clear hl_2
  obtain ⟨H3, hl_4⟩ := ops_next 3 4 rfl hl_3
  clear hl_3
  obtain ⟨H4, hl_5⟩ := ops_next 4 5 rfl hl_4
  clear hl_4
  obtain ⟨H5, hl_6⟩ := ops_next 5 6 rfl hl_5
  clear hl_5
  obtain ⟨H6, hl_7⟩ := ops_next 6 7 rfl hl_6
  clear hl_6
  obtain ⟨H7, hl_8⟩ := ops_next 7 8 rfl hl_7
  clear hl_7
  obtain ⟨H8, hl_9⟩ := ops_next 8 9 rfl hl_8
  clear hl_8
  obtain ⟨H9, hl_10⟩ := ops_next 9 10 rfl hl_9
  clear hl_9
  obtain ⟨H10, hl_11⟩ := ops_next 10 11 rfl hl_10
  clear hl_10
  obtain ⟨H11, hl_12⟩ := ops_next 11 12 rfl hl_11
  clear hl_11
  obtain ⟨H12, hl_13⟩ := ops_next 12 13 rfl hl_12
  clear hl_12
  obtain ⟨H13, hl_14⟩ := ops_next 13 14 rfl hl_13
  clear hl_13
  obtain ⟨H14, hl_15⟩ := ops_next 14 15 rfl hl_14
  clear hl_14
  obtain ⟨H15, hl_16⟩ := ops_next 15 16 rfl hl_15
  clear hl_15
  obtain ⟨H16, hl_17⟩ := ops_next 16 17 rfl hl_16
  clear hl_16
  obtain ⟨H17, hl_18⟩ := ops_next 17 18 rfl hl_17
  clear hl_17
  obtain ⟨H18, hl_19⟩ := ops_next 18 19 rfl hl_18
  clear hl_18
  obtain ⟨H19, hl_20⟩ := ops_next 19 20 rfl hl_19
  clear hl_19
  obtain ⟨H20, hl_21⟩ := ops_next 20 21 rfl hl_20
  clear hl_20
  obtain ⟨H21, hl_22⟩ := ops_next 21 22 rfl hl_21
  clear hl_21
  obtain ⟨H22, hl_23⟩ := ops_next 22 23 rfl hl_22
  clear hl_22
  obtain ⟨H23, hl_24⟩ := ops_next 23 24 rfl hl_23
  clear hl_23
  clear hl_24
  have x_2 : ext fr 2 = _ := congrArg (fun a => Act.eval a (.tmp 2)) HFR.out
  conv at x_2 => rhs; simp only [Act.eval, Array.getD_eq_getD_getElem?, List.getElem?_toArray, List.getElem?_cons_succ, List.getElem?_cons_zero, Option.getD_some]
  refine env_yes HSZ H0.out ?_ (fun w' hS => ?_) ?_
  rotate_left
  (go_simp
   rfl)
  refine env_yes HSZ H1.out ?_ (fun w' hS => ?_) ?_
  rotate_left
  (have h := (hS.cell (p := ⟨w.heap.size, 0, none⟩) lx).trans u0
   go_simp
   rfl)
  refine env_yes HSZ H2.out ?_ (fun w' hS => ?_) ?_
  rotate_left
  (go_simp
   rfl)
  refine env_yes HSZ H3.out ?_ (fun w' hS => ?_) ?_
  rotate_left
  (go_simp
   rfl)
  refine env_off HSZ H4.out H3.out (by first | rfl | go_simp) ?_
  refine env_off HSZ H5.out H3.out (by first | rfl | go_simp) ?_
  refine env_yes HSZ H6.out ?_ (fun w' hS => ?_) ?_
  rotate_left
  (go_simp
   rfl)
  refine env_yes HSZ H7.out ?_ (fun w' hS => ?_) ?_
  rotate_left
  (go_simp
   rfl)
  refine env_off HSZ H8.out H7.out (by first | rfl | go_simp) ?_
  refine env_off HSZ H9.out H7.out (by first | rfl | go_simp) ?_
  refine env_off HSZ H10.out H7.out (by first | rfl | go_simp) ?_
  refine env_yes HSZ H11.out ?_ (fun w' hS => ?_) ?_
  rotate_left
  (go_simp
   rfl)
  refine env_yes HSZ H12.out ?_ (fun w' hS => ?_) ?_
  rotate_left
  (go_simp
   rfl)
  refine env_off HSZ H13.out H12.out (by first | rfl | go_simp) ?_
  refine env_off HSZ H14.out H12.out (by first | rfl | go_simp) ?_
  refine env_off HSZ H15.out H12.out (by first | rfl | go_simp) ?_
  refine env_off HSZ H16.out H12.out (by first | rfl | go_simp) ?_
  refine env_off HSZ H17.out H12.out (by first | rfl | go_simp) ?_
  refine env_off HSZ H18.out H12.out (by first | rfl | go_simp) ?_
  refine env_off HSZ H19.out H12.out (by first | rfl | go_simp) ?_
  refine env_off HSZ H20.out H12.out (by first | rfl | go_simp) ?_
  refine env_off HSZ H21.out H12.out (by first | rfl | go_simp) ?_
  refine env_yes HSZ H22.out ?_ (fun w' hS => ?_) ?_
  rotate_left
  (go_simp
   rfl)
  refine env_yes HSZ H23.out ?_ (fun w' hS => ?_) ?_
  rotate_left
  (go_simp
   rfl)
  refine env_end ?_
  have hfr := HFR.out
  clear HFR HSZ H0 H1 H2 H3 H4 H5 H6 H7 H8 H9 H10 H11 H12 H13 H14 H15 H16 H17 H18 H19 H20 H21 H22 H23 x_2
  subst hfr
  simp only [putAll, Act.put, List.setIfInBounds_toArray, List.set_cons_succ, List.set_cons_zero]
  have K2n : Aside (Blk w5.drew w.heap.size _ _) := ⟨K2.out⟩
  have K4n : Aside (Blk w5.drew (w.heap.size + 1) _ _) := ⟨K4.out⟩
  have BLn := Aside.mk BL.out.drew
  clear u0 u1 u2 u3 u4 u5 u6 u7 f0 lx K2 K4 BL
  generalize w5.drew = w6 at K2n K4n BLn ⊢
  have K2 := K2n
  have K4 := K4n
  have BL := BLn
  clear K2n K4n BLn
  have u0 := K2.out.cell 0
  have u1 := K2.out.cell 1
  have u2 := K2.out.cell 2
  have u3 := K2.out.cell 3
  have u4 := K2.out.cell 4
  have u5 := K2.out.cell 5
  have u6 := K2.out.cell 6
  have u7 := K2.out.cell 7
  simp only [List.getElem?_cons_zero, List.getElem?_cons_succ] at u0 u1 u2 u3 u4 u5 u6 u7
  have f0 := K2.out.free 0
  have lx : w.heap.size < w6.heap.size := K2.out.lt
  go_wp2_with fail
  refine region_env [(0, true), (1, true), (2, true), (3, true), (4, true), (5, true), (6, true), (7, true), (8, true), (9, true), (10, true), (11, true), (12, true), (13, true), (14, true), (15, true), (16, true), (17, true), (18, true), (19, true), (20, true), (21, true), (22, true), (23, true)] (fun w' => Below w6.heap.size w6 w') 220 rfl (by kernel_rfl) (by kernel_rfl) (fun _ _ d _ _ h => by cases d <;> exact h) ((Below.refl _ _).drew) (fun ops fr HFR HSZ hl => ?_)
  have hl_0 := ops_start hl
  clear hl
  obtain ⟨H0, hl_1⟩ := ops_next 0 1 rfl hl_0
  clear hl_0
  obtain ⟨H1, hl_2⟩ := ops_next 1 2 rfl hl_1
  clear hl_1
  obtain ⟨H2, hl_3⟩ := ops_next 2 3 rfl hl_2
  clear hl_2
  obtain ⟨H3, hl_4⟩ := ops_next 3 4 rfl hl_3
  clear hl_3
  obtain ⟨H4, hl_5⟩ := ops_next 4 5 rfl hl_4
  clear hl_4
  obtain ⟨H5, hl_6⟩ := ops_next 5 6 rfl hl_5
  clear hl_5
  obtain ⟨H6, hl_7⟩ := ops_next 6 7 rfl hl_6
  clear hl_6
  obtain ⟨H7, hl_8⟩ := ops_next 7 8 rfl hl_7
  clear hl_7
  obtain ⟨H8, hl_9⟩ := ops_next 8 9 rfl hl_8
  clear hl_8
  obtain ⟨H9, hl_10⟩ := ops_next 9 10 rfl hl_9
  clear hl_9
  obtain ⟨H10, hl_11⟩ := ops_next 10 11 rfl hl_10
  clear hl_10
  obtain ⟨H11, hl_12⟩ := ops_next 11 12 rfl hl_11
  clear hl_11
  obtain ⟨H12, hl_13⟩ := ops_next 12 13 rfl hl_12
  clear hl_12
  obtain ⟨H13, hl_14⟩ := ops_next 13 14 rfl hl_13
  clear hl_13
  obtain ⟨H14, hl_15⟩ := ops_next 14 15 rfl hl_14
  clear hl_14
  obtain ⟨H15, hl_16⟩ := ops_next 15 16 rfl hl_15
  clear hl_15
  obtain ⟨H16, hl_17⟩ := ops_next 16 17 rfl hl_16
  clear hl_16
  obtain ⟨H17, hl_18⟩ := ops_next 17 18 rfl hl_17
  clear hl_17
  obtain ⟨H18, hl_19⟩ := ops_next 18 19 rfl hl_18
  clear hl_18
  obtain ⟨H19, hl_20⟩ := ops_next 19 20 rfl hl_19
  clear hl_19
  obtain ⟨H20, hl_21⟩ := ops_next 20 21 rfl hl_20
  clear hl_20
  obtain ⟨H21, hl_22⟩ := ops_next 21 22 rfl hl_21
  clear hl_21
  obtain ⟨H22, hl_23⟩ := ops_next 22 23 rfl hl_22
  clear hl_22
  obtain ⟨H23, hl_24⟩ := ops_next 23 24 rfl hl_23
  clear hl_23
  clear hl_24
  have x_2 : ext fr 2 = _ := congrArg (fun a => Act.eval a (.tmp 2)) HFR.out
  conv at x_2 => rhs; simp only [Act.eval, Array.getD_eq_getD_getElem?, List.getElem?_toArray, List.getElem?_cons_succ, List.getElem?_cons_zero, Option.getD_some]
  refine env_yes HSZ H0.out ?_ (fun w' hS => ?_) ?_
  rotate_left
  (go_simp
   rfl)
  refine env_yes HSZ H1.out ?_ (fun w' hS => ?_) ?_
  rotate_left
  (have h := (hS.cell (p := ⟨w.heap.size, 0, none⟩) lx).trans u0
   go_simp
   rfl)
  refine env_yes HSZ H2.out ?_ (fun w' hS => ?_) ?_
  rotate_left
  (go_simp
   rfl)
  refine env_yes HSZ H3.out ?_ (fun w' hS => ?_) ?_
  rotate_left
  (go_simp
   rfl)
  refine env_off HSZ H4.out H3.out (by first | rfl | go_simp) ?_
  refine env_off HSZ H5.out H3.out (by first | rfl | go_simp) ?_
  refine env_yes HSZ H6.out ?_ (fun w' hS => ?_) ?_
  rotate_left
  (go_simp
   rfl)
  refine env_yes HSZ H7.out ?_ (fun w' hS => ?_) ?_
  rotate_left
  (go_simp
   rfl)
  refine env_off HSZ H8.out H7.out (by first | rfl | go_simp) ?_
  refine env_off HSZ H9.out H7.out (by first | rfl | go_simp) ?_
  refine env_off HSZ H10.out H7.out (by first | rfl | go_simp) ?_
  refine env_yes HSZ H11.out ?_ (fun w' hS => ?_) ?_
  rotate_left
  (go_simp
   rfl)
  refine env_yes HSZ H12.out ?_ (fun w' hS => ?_) ?_
  rotate_left
  (go_simp
   rfl)
  refine env_off HSZ H13.out H12.out (by first | rfl | go_simp) ?_
  refine env_off HSZ H14.out H12.out (by first | rfl | go_simp) ?_
  refine env_off HSZ H15.out H12.out (by first | rfl | go_simp) ?_
  refine env_off HSZ H16.out H12.out (by first | rfl | go_simp) ?_
  refine env_off HSZ H17.out H12.out (by first | rfl | go_simp) ?_
  refine env_off HSZ H18.out H12.out (by first | rfl | go_simp) ?_
  refine env_off HSZ H19.out H12.out (by first | rfl | go_simp) ?_
  refine env_off HSZ H20.out H12.out (by first | rfl | go_simp) ?_
  refine env_off HSZ H21.out H12.out (by first | rfl | go_simp) ?_
  refine env_yes HSZ H22.out ?_ (fun w' hS => ?_) ?_
  rotate_left
  (go_simp
   rfl)
  refine env_yes HSZ H23.out ?_ (fun w' hS => ?_) ?_
  rotate_left
  (go_simp
   rfl)
  refine env_end ?_
  have hfr := HFR.out
  clear HFR HSZ H0 H1 H2 H3 H4 H5 H6 H7 H8 H9 H10 H11 H12 H13 H14 H15 H16 H17 H18 H19 H20 H21 H22 H23 x_2
  subst hfr
  simp only [putAll, Act.put, List.setIfInBounds_toArray, List.set_cons_succ, List.set_cons_zero]
  have K2n : Aside (Blk w6.drew w.heap.size _ _) := ⟨K2.out⟩
  have K4n : Aside (Blk w6.drew (w.heap.size + 1) _ _) := ⟨K4.out⟩
  have BLn := Aside.mk BL.out.drew
  clear u0 u1 u2 u3 u4 u5 u6 u7 f0 lx K2 K4 BL
  generalize w6.drew = w7 at K2n K4n BLn ⊢
  have K2 := K2n
  have K4 := K4n
  have BL := BLn
  clear K2n K4n BLn
  have u0 := K2.out.cell 0
  have u1 := K2.out.cell 1
  have u2 := K2.out.cell 2
  have u3 := K2.out.cell 3
  have u4 := K2.out.cell 4
  have u5 := K2.out.cell 5
  have u6 := K2.out.cell 6
  have u7 := K2.out.cell 7
  simp only [List.getElem?_cons_zero, List.getElem?_cons_succ] at u0 u1 u2 u3 u4 u5 u6 u7
  have f0 := K2.out.free 0
  have lx : w.heap.size < w7.heap.size := K2.out.lt
  have K2s : Aside (Blk (w7.setCell ⟨w.heap.size, 0, none⟩ (.int .i64 6)) w.heap.size 27 [.int .i64 6, .string name, .string cookie, .int .i64 flags, .int .i64 mine, .string calls, .string peer, .int .i64 both]) := ⟨K2.out.set 0 _⟩
  have K4s : Aside (Blk (w7.setCell ⟨w.heap.size, 0, none⟩ (.int .i64 6)) (w.heap.size + 1) 27 [.int .i64 0, .string ⟨#[]⟩, .string ⟨#[]⟩, .int .i64 0, .int .i64 0, .string ⟨#[]⟩, .string ⟨#[]⟩, .int .i64 0]) := ⟨K4.out.far (show w.heap.size + 1 ≠ w.heap.size by omega) _⟩
  have BLs : Aside (Below w.heap.size w (w7.setCell ⟨w.heap.size, 0, none⟩ (.int .i64 6))) := ⟨BL.out.setCell (Nat.le_refl _) _⟩
  have v0 := K2s.out.cell 0
  have v1 := K2s.out.cell 1
  have v2 := K2s.out.cell 2
  have v3 := K2s.out.cell 3
  have v4 := K2s.out.cell 4
  have v5 := K2s.out.cell 5
  have v6 := K2s.out.cell 6
  have v7 := K2s.out.cell 7
  simp only [List.getElem?_cons_zero, List.getElem?_cons_succ] at v0 v1 v2 v3 v4 v5 v6 v7
  go_wp2_with (refine wpList_store_blk rfl 27 _ _ rfl (w.heap.size + 1) [.int .i64 6, .string name, .string cookie, .int .i64 flags, .int .i64 mine, .string calls, .string peer, .int .i64 both] rfl rfl 27 [.int .i64 0, .string ⟨#[]⟩, .string ⟨#[]⟩, .int .i64 0, .int .i64 0, .string ⟨#[]⟩, .string ⟨#[]⟩, .int .i64 0] (K4s.out) (by kernel_rfl) rfl rfl ?_; intro w9 k9 hg9; have K9 := Aside.mk k9; have B9 := Aside.mk (below_grown (BLs.out) hg9 (by omega)); clear k9 hg9)
  refine bodyPost_ret (res_ctt rfl _ _ (w.heap.size + 1) 27 [.int .i64 6, .string name, .string cookie, .int .i64 flags, .int .i64 mine, .string calls, .string peer, .int .i64 both] _ rfl K9.out Tryd.underlying27 rfl (by kernel_rfl)) rfl ⟨.slice (some ⟨w.heap.size + 2, 0, none⟩) 0 0, by rw [E.out]; rfl, by rw [E.out]; exact strs_nil _ _ _, B9.out⟩
set_option maxRecDepth 100000 in
set_option maxHeartbeats 8000000 in
theorem sStep0b (name cookie : ByteArray) (flags mine : Int) (calls peer : ByteArray) (both : Int) (data : ByteArray) (w : World) (hn : name.size ≤ 1048576) (hc : cookie.size ≤ 100) (hf0 : 0 ≤ flags) (hf1 : flags ≤ 65535) (hm0 : 0 ≤ mine) (hm1 : mine ≤ 4294967295) (hca : calls.size ≤ 1048576) (hpe : peer.size ≤ 1048576) (hd : data.size ≤ 1048576) (hb : handB 0 name cookie flags mine calls peer both = true) (h0 : 0 < data.size) (hcb : ((data[0].toNat : Int) == 78) = false) :
    Calls Tryd.prog 13 #[.agg #[.int .i64 0, .string name, .string cookie, .int .i64 flags, .int .i64 mine, .string calls, .string peer, .int .i64 both], .string data] w (StepOK w (hearsR 0 name cookie flags mine calls peer both data) 0) := by
  have E : Aside (hearsR 0 name cookie flags mine calls peer both data = ((6, name, cookie, flags, mine, calls, peer, both), [])) := ⟨by rw [sStep0_eq, hello, head_at 78 h0, show (((78 : UInt8).toNat : Nat) : Int) = 78 from rfl, hcb]; rfl⟩
  generalize hearsR 0 name cookie flags mine calls peer both data = r at E ⊢
  have h0i : (0 : Int) < data.size := by omega
  have HB := Aside.mk hb
  clear hb
  go_enter Tryd.func13, Tryd.ntmps13
  go_wp2_with fail
  obtain ⟨w3, hw3⟩ : ∃ x, x = ((w.alloc (.cells #[.int .i64 0, .string name, .string cookie, .int .i64 flags, .int .i64 mine, .string calls, .string peer, .int .i64 both] 27)).alloc (.cells #[.int .i64 0, .string ⟨#[]⟩, .string ⟨#[]⟩, .int .i64 0, .int .i64 0, .string ⟨#[]⟩, .string ⟨#[]⟩, .int .i64 0] 27)).alloc (.cells #[] 9) := ⟨_, rfl⟩
  rw [← hw3]
  have K2 : Aside (Blk w3 w.heap.size 27 [.int .i64 0, .string name, .string cookie, .int .i64 flags, .int .i64 mine, .string calls, .string peer, .int .i64 both]) := ⟨by rw [hw3]; exact ((Blk.new w 27 [.int .i64 0, .string name, .string cookie, .int .i64 flags, .int .i64 mine, .string calls, .string peer, .int .i64 both]).alloc _).alloc _⟩
  have K4 : Aside (Blk w3 (w.heap.size + 1) 27 [.int .i64 0, .string ⟨#[]⟩, .string ⟨#[]⟩, .int .i64 0, .int .i64 0, .string ⟨#[]⟩, .string ⟨#[]⟩, .int .i64 0]) := ⟨by rw [hw3]; exact (Blk.made (w.alloc _) 27 [.int .i64 0, .string ⟨#[]⟩, .string ⟨#[]⟩, .int .i64 0, .int .i64 0, .string ⟨#[]⟩, .string ⟨#[]⟩, .int .i64 0] (by simp)).alloc _⟩
  have BL : Aside (Below w.heap.size w w3) := ⟨by rw [hw3]; go_grown⟩
  clear hw3
  refine (l13Hand 0 name cookie flags mine calls peer both w3 (by omega) (by omega) (by omega) (by omega)).mono ?_
  rintro e w4 ⟨rfl, hb⟩
  rw [HB.out]
  have K2n := Aside.mk (K2.out.below hb)
  have K4n := Aside.mk (K4.out.below hb)
  have BLn := Aside.mk (below_later BL.out hb)
  clear K2 K4 BL
  have K2 := K2n
  have K4 := K4n
  have BL := BLn
  clear BLn K2n K4n
  clear hb HB
  have u0 := K2.out.cell 0
  have u1 := K2.out.cell 1
  have u2 := K2.out.cell 2
  have u3 := K2.out.cell 3
  have u4 := K2.out.cell 4
  have u5 := K2.out.cell 5
  have u6 := K2.out.cell 6
  have u7 := K2.out.cell 7
  simp only [List.getElem?_cons_zero, List.getElem?_cons_succ] at u0 u1 u2 u3 u4 u5 u6 u7
  have f0 := K2.out.free 0
  have lx : w.heap.size < w4.heap.size := K2.out.lt
  go_wp2_with fail
  refine region_env [(0, true), (1, true), (2, true), (3, true), (4, true), (5, true), (6, true), (7, true), (8, true), (9, true), (10, true), (11, true), (12, true), (13, true), (14, true), (15, true), (16, true), (17, true), (18, true), (19, true), (20, true), (21, true), (22, true), (23, true), (24, true)] (fun w' => Below w4.heap.size w4 w') 220 rfl (by kernel_rfl) (by kernel_rfl) (fun _ _ d _ _ h => by cases d <;> exact h) ((Below.refl _ _).drew) (fun ops fr HFR HSZ hl => ?_)
  have hl_0 := ops_start hl
  clear hl
  obtain ⟨H0, hl_1⟩ := ops_next 0 1 rfl hl_0
  clear hl_0
  obtain ⟨H1, hl_2⟩ := ops_next 1 2 rfl hl_1
  clear hl_1
  obtain ⟨H2, hl_3⟩ := ops_next 2 3 rfl hl_2
  clear hl_2
  obtain ⟨H3, hl_4⟩ := ops_next 3 4 rfl hl_3
  clear hl_3
  obtain ⟨H4, hl_5⟩ := ops_next 4 5 rfl hl_4
  clear hl_4
  obtain ⟨H5, hl_6⟩ := ops_next 5 6 rfl hl_5
  clear hl_5
  obtain ⟨H6, hl_7⟩ := ops_next 6 7 rfl hl_6
  clear hl_6
  obtain ⟨H7, hl_8⟩ := ops_next 7 8 rfl hl_7
  clear hl_7
  obtain ⟨H8, hl_9⟩ := ops_next 8 9 rfl hl_8
  clear hl_8
  obtain ⟨H9, hl_10⟩ := ops_next 9 10 rfl hl_9
  clear hl_9
  obtain ⟨H10, hl_11⟩ := ops_next 10 11 rfl hl_10
  clear hl_10
  obtain ⟨H11, hl_12⟩ := ops_next 11 12 rfl hl_11
  clear hl_11
  obtain ⟨H12, hl_13⟩ := ops_next 12 13 rfl hl_12
  clear hl_12
  obtain ⟨H13, hl_14⟩ := ops_next 13 14 rfl hl_13
  clear hl_13
  obtain ⟨H14, hl_15⟩ := ops_next 14 15 rfl hl_14
  clear hl_14
  obtain ⟨H15, hl_16⟩ := ops_next 15 16 rfl hl_15
  clear hl_15
  obtain ⟨H16, hl_17⟩ := ops_next 16 17 rfl hl_16
  clear hl_16
  obtain ⟨H17, hl_18⟩ := ops_next 17 18 rfl hl_17
  clear hl_17
  obtain ⟨H18, hl_19⟩ := ops_next 18 19 rfl hl_18
  clear hl_18
  obtain ⟨H19, hl_20⟩ := ops_next 19 20 rfl hl_19
  clear hl_19
  obtain ⟨H20, hl_21⟩ := ops_next 20 21 rfl hl_20
  clear hl_20
  obtain ⟨H21, hl_22⟩ := ops_next 21 22 rfl hl_21
  clear hl_21
  obtain ⟨H22, hl_23⟩ := ops_next 22 23 rfl hl_22
  clear hl_22
  obtain ⟨H23, hl_24⟩ := ops_next 23 24 rfl hl_23
  clear hl_23
  obtain ⟨H24, hl_25⟩ := ops_next 24 25 rfl hl_24
  clear hl_24
  clear hl_25
  have x_2 : ext fr 2 = _ := congrArg (fun a => Act.eval a (.tmp 2)) HFR.out
  conv at x_2 => rhs; simp only [Act.eval, Array.getD_eq_getD_getElem?, List.getElem?_toArray, List.getElem?_cons_succ, List.getElem?_cons_zero, Option.getD_some]
  refine env_yes HSZ H0.out ?_ (fun w' hS => ?_) ?_
  rotate_left
  (go_simp
   rfl)
  refine env_yes HSZ H1.out ?_ (fun w' hS => ?_) ?_
  rotate_left
  (have h := (hS.cell (p := ⟨w.heap.size, 0, none⟩) lx).trans u0
   go_simp
   rfl)
  refine env_yes HSZ H2.out ?_ (fun w' hS => ?_) ?_
  rotate_left
  (go_simp
   rfl)
  refine env_yes HSZ H3.out ?_ (fun w' hS => ?_) ?_
  rotate_left
  (go_simp
   rfl)
  refine env_off HSZ H4.out H3.out (by first | rfl | go_simp) ?_
  refine env_off HSZ H5.out H3.out (by first | rfl | go_simp) ?_
  refine env_yes HSZ H6.out ?_ (fun w' hS => ?_) ?_
  rotate_left
  (go_simp
   rfl)
  refine env_yes HSZ H7.out ?_ (fun w' hS => ?_) ?_
  rotate_left
  (go_simp
   rfl)
  refine env_off HSZ H8.out H7.out (by first | rfl | go_simp) ?_
  refine env_off HSZ H9.out H7.out (by first | rfl | go_simp) ?_
  refine env_off HSZ H10.out H7.out (by first | rfl | go_simp) ?_
  refine env_yes HSZ H11.out ?_ (fun w' hS => ?_) ?_
  rotate_left
  (go_simp
   rfl)
  refine env_yes HSZ H12.out ?_ (fun w' hS => ?_) ?_
  rotate_left
  (go_simp
   rfl)
  refine env_off HSZ H13.out H12.out (by first | rfl | go_simp) ?_
  refine env_off HSZ H14.out H12.out (by first | rfl | go_simp) ?_
  refine env_off HSZ H15.out H12.out (by first | rfl | go_simp) ?_
  refine env_yes HSZ H16.out ?_ (fun w' hS => ?_) ?_
  rotate_left
  (go_simp
   rfl)
  refine env_yes HSZ H17.out ?_ (fun w' hS => ?_) ?_
  rotate_left
  (go_simp
   rfl)
  refine env_off HSZ H18.out H17.out (by first | rfl | go_simp) ?_
  refine env_off HSZ H19.out H17.out (by first | rfl | go_simp) ?_
  refine env_off HSZ H20.out H17.out (by first | rfl | go_simp) ?_
  refine env_off HSZ H21.out H17.out (by first | rfl | go_simp) ?_
  refine env_off HSZ H22.out H17.out (by first | rfl | go_simp) ?_
  refine env_yes HSZ H23.out ?_ (fun w' hS => ?_) ?_
  rotate_left
  (go_simp
   rfl)
  refine env_yes HSZ H24.out ?_ (fun w' hS => ?_) ?_
  rotate_left
  (go_simp
   rfl)
  refine env_end ?_
  have hfr := HFR.out
  clear HFR HSZ H0 H1 H2 H3 H4 H5 H6 H7 H8 H9 H10 H11 H12 H13 H14 H15 H16 H17 H18 H19 H20 H21 H22 H23 H24 x_2
  subst hfr
  simp only [putAll, Act.put, List.setIfInBounds_toArray, List.set_cons_succ, List.set_cons_zero]
  have K2n : Aside (Blk w4.drew w.heap.size _ _) := ⟨K2.out⟩
  have K4n : Aside (Blk w4.drew (w.heap.size + 1) _ _) := ⟨K4.out⟩
  have BLn := Aside.mk BL.out.drew
  clear u0 u1 u2 u3 u4 u5 u6 u7 f0 lx K2 K4 BL
  generalize w4.drew = w5 at K2n K4n BLn ⊢
  have K2 := K2n
  have K4 := K4n
  have BL := BLn
  clear K2n K4n BLn
  have u0 := K2.out.cell 0
  have u1 := K2.out.cell 1
  have u2 := K2.out.cell 2
  have u3 := K2.out.cell 3
  have u4 := K2.out.cell 4
  have u5 := K2.out.cell 5
  have u6 := K2.out.cell 6
  have u7 := K2.out.cell 7
  simp only [List.getElem?_cons_zero, List.getElem?_cons_succ] at u0 u1 u2 u3 u4 u5 u6 u7
  have f0 := K2.out.free 0
  have lx : w.heap.size < w5.heap.size := K2.out.lt
  go_wp2_with fail
  refine region_env [(0, true), (1, true), (2, true), (3, true), (4, true), (5, true), (6, true), (7, true), (8, true), (9, true), (10, true), (11, true), (12, true), (13, true), (14, true), (15, true), (16, true), (17, true), (18, true), (19, true), (20, true), (21, true), (22, true), (23, true)] (fun w' => Below w5.heap.size w5 w') 220 rfl (by kernel_rfl) (by kernel_rfl) (fun _ _ d _ _ h => by cases d <;> exact h) ((Below.refl _ _).drew) (fun ops fr HFR HSZ hl => ?_)
  have hl_0 := ops_start hl
  clear hl
  obtain ⟨H0, hl_1⟩ := ops_next 0 1 rfl hl_0
  clear hl_0
  obtain ⟨H1, hl_2⟩ := ops_next 1 2 rfl hl_1
  clear hl_1
  obtain ⟨H2, hl_3⟩ := ops_next 2 3 rfl hl_2
  clear hl_2
  obtain ⟨H3, hl_4⟩ := ops_next 3 4 rfl hl_3
  clear hl_3
  obtain ⟨H4, hl_5⟩ := ops_next 4 5 rfl hl_4
  clear hl_4
  obtain ⟨H5, hl_6⟩ := ops_next 5 6 rfl hl_5
  clear hl_5
  obtain ⟨H6, hl_7⟩ := ops_next 6 7 rfl hl_6
  clear hl_6
  obtain ⟨H7, hl_8⟩ := ops_next 7 8 rfl hl_7
  clear hl_7
  obtain ⟨H8, hl_9⟩ := ops_next 8 9 rfl hl_8
  clear hl_8
  obtain ⟨H9, hl_10⟩ := ops_next 9 10 rfl hl_9
  clear hl_9
  obtain ⟨H10, hl_11⟩ := ops_next 10 11 rfl hl_10
  clear hl_10
  obtain ⟨H11, hl_12⟩ := ops_next 11 12 rfl hl_11
  clear hl_11
  obtain ⟨H12, hl_13⟩ := ops_next 12 13 rfl hl_12
  clear hl_12
  obtain ⟨H13, hl_14⟩ := ops_next 13 14 rfl hl_13
  clear hl_13
  obtain ⟨H14, hl_15⟩ := ops_next 14 15 rfl hl_14
  clear hl_14
  obtain ⟨H15, hl_16⟩ := ops_next 15 16 rfl hl_15
  clear hl_15
  obtain ⟨H16, hl_17⟩ := ops_next 16 17 rfl hl_16
  clear hl_16
  obtain ⟨H17, hl_18⟩ := ops_next 17 18 rfl hl_17
  clear hl_17
  obtain ⟨H18, hl_19⟩ := ops_next 18 19 rfl hl_18
  clear hl_18
  obtain ⟨H19, hl_20⟩ := ops_next 19 20 rfl hl_19
  clear hl_19
  obtain ⟨H20, hl_21⟩ := ops_next 20 21 rfl hl_20
  clear hl_20
  obtain ⟨H21, hl_22⟩ := ops_next 21 22 rfl hl_21
  clear hl_21
  obtain ⟨H22, hl_23⟩ := ops_next 22 23 rfl hl_22
  clear hl_22
  obtain ⟨H23, hl_24⟩ := ops_next 23 24 rfl hl_23
  clear hl_23
  clear hl_24
  have x_2 : ext fr 2 = _ := congrArg (fun a => Act.eval a (.tmp 2)) HFR.out
  conv at x_2 => rhs; simp only [Act.eval, Array.getD_eq_getD_getElem?, List.getElem?_toArray, List.getElem?_cons_succ, List.getElem?_cons_zero, Option.getD_some]
  refine env_yes HSZ H0.out ?_ (fun w' hS => ?_) ?_
  rotate_left
  (go_simp
   rfl)
  refine env_yes HSZ H1.out ?_ (fun w' hS => ?_) ?_
  rotate_left
  (have h := (hS.cell (p := ⟨w.heap.size, 0, none⟩) lx).trans u0
   go_simp
   rfl)
  refine env_yes HSZ H2.out ?_ (fun w' hS => ?_) ?_
  rotate_left
  (go_simp
   rfl)
  refine env_yes HSZ H3.out ?_ (fun w' hS => ?_) ?_
  rotate_left
  (go_simp
   rfl)
  refine env_off HSZ H4.out H3.out (by first | rfl | go_simp) ?_
  refine env_off HSZ H5.out H3.out (by first | rfl | go_simp) ?_
  refine env_yes HSZ H6.out ?_ (fun w' hS => ?_) ?_
  rotate_left
  (go_simp
   rfl)
  refine env_yes HSZ H7.out ?_ (fun w' hS => ?_) ?_
  rotate_left
  (go_simp
   rfl)
  refine env_off HSZ H8.out H7.out (by first | rfl | go_simp) ?_
  refine env_off HSZ H9.out H7.out (by first | rfl | go_simp) ?_
  refine env_off HSZ H10.out H7.out (by first | rfl | go_simp) ?_
  refine env_yes HSZ H11.out ?_ (fun w' hS => ?_) ?_
  rotate_left
  (go_simp
   rfl)
  refine env_yes HSZ H12.out ?_ (fun w' hS => ?_) ?_
  rotate_left
  (go_simp
   rfl)
  refine env_off HSZ H13.out H12.out (by first | rfl | go_simp) ?_
  refine env_off HSZ H14.out H12.out (by first | rfl | go_simp) ?_
  refine env_off HSZ H15.out H12.out (by first | rfl | go_simp) ?_
  refine env_off HSZ H16.out H12.out (by first | rfl | go_simp) ?_
  refine env_off HSZ H17.out H12.out (by first | rfl | go_simp) ?_
  refine env_off HSZ H18.out H12.out (by first | rfl | go_simp) ?_
  refine env_off HSZ H19.out H12.out (by first | rfl | go_simp) ?_
  refine env_off HSZ H20.out H12.out (by first | rfl | go_simp) ?_
  refine env_off HSZ H21.out H12.out (by first | rfl | go_simp) ?_
  refine env_yes HSZ H22.out ?_ (fun w' hS => ?_) ?_
  rotate_left
  (go_simp
   rfl)
  refine env_yes HSZ H23.out ?_ (fun w' hS => ?_) ?_
  rotate_left
  (go_simp
   rfl)
  refine env_end ?_
  have hfr := HFR.out
  clear HFR HSZ H0 H1 H2 H3 H4 H5 H6 H7 H8 H9 H10 H11 H12 H13 H14 H15 H16 H17 H18 H19 H20 H21 H22 H23 x_2
  subst hfr
  simp only [putAll, Act.put, List.setIfInBounds_toArray, List.set_cons_succ, List.set_cons_zero]
  have K2n : Aside (Blk w5.drew w.heap.size _ _) := ⟨K2.out⟩
  have K4n : Aside (Blk w5.drew (w.heap.size + 1) _ _) := ⟨K4.out⟩
  have BLn := Aside.mk BL.out.drew
  clear u0 u1 u2 u3 u4 u5 u6 u7 f0 lx K2 K4 BL
  generalize w5.drew = w6 at K2n K4n BLn ⊢
  have K2 := K2n
  have K4 := K4n
  have BL := BLn
  clear K2n K4n BLn
  have u0 := K2.out.cell 0
  have u1 := K2.out.cell 1
  have u2 := K2.out.cell 2
  have u3 := K2.out.cell 3
  have u4 := K2.out.cell 4
  have u5 := K2.out.cell 5
  have u6 := K2.out.cell 6
  have u7 := K2.out.cell 7
  simp only [List.getElem?_cons_zero, List.getElem?_cons_succ] at u0 u1 u2 u3 u4 u5 u6 u7
  have f0 := K2.out.free 0
  have lx : w.heap.size < w6.heap.size := K2.out.lt
  go_wp2_with fail
  refine region_env [(0, true), (1, true), (2, true), (3, true), (4, true), (5, true), (6, true), (7, true), (8, true), (9, true), (10, true), (11, true), (12, true), (13, true), (14, true), (15, true), (16, true), (17, true), (18, true), (19, true), (20, true), (21, true), (22, true), (23, true)] (fun w' => Below w6.heap.size w6 w') 220 rfl (by kernel_rfl) (by kernel_rfl) (fun _ _ d _ _ h => by cases d <;> exact h) ((Below.refl _ _).drew) (fun ops fr HFR HSZ hl => ?_)
  have hl_0 := ops_start hl
  clear hl
  obtain ⟨H0, hl_1⟩ := ops_next 0 1 rfl hl_0
  clear hl_0
  obtain ⟨H1, hl_2⟩ := ops_next 1 2 rfl hl_1
  clear hl_1
  obtain ⟨H2, hl_3⟩ := ops_next 2 3 rfl hl_2
  clear hl_2
  obtain ⟨H3, hl_4⟩ := ops_next 3 4 rfl hl_3
  clear hl_3
  obtain ⟨H4, hl_5⟩ := ops_next 4 5 rfl hl_4
  clear hl_4
  obtain ⟨H5, hl_6⟩ := ops_next 5 6 rfl hl_5
  clear hl_5
  obtain ⟨H6, hl_7⟩ := ops_next 6 7 rfl hl_6
  clear hl_6
  obtain ⟨H7, hl_8⟩ := ops_next 7 8 rfl hl_7
  clear hl_7
  obtain ⟨H8, hl_9⟩ := ops_next 8 9 rfl hl_8
  clear hl_8
  obtain ⟨H9, hl_10⟩ := ops_next 9 10 rfl hl_9
  clear hl_9
  obtain ⟨H10, hl_11⟩ := ops_next 10 11 rfl hl_10
  clear hl_10
  obtain ⟨H11, hl_12⟩ := ops_next 11 12 rfl hl_11
  clear hl_11
  obtain ⟨H12, hl_13⟩ := ops_next 12 13 rfl hl_12
  clear hl_12
  obtain ⟨H13, hl_14⟩ := ops_next 13 14 rfl hl_13
  clear hl_13
  obtain ⟨H14, hl_15⟩ := ops_next 14 15 rfl hl_14
  clear hl_14
  obtain ⟨H15, hl_16⟩ := ops_next 15 16 rfl hl_15
  clear hl_15
  obtain ⟨H16, hl_17⟩ := ops_next 16 17 rfl hl_16
  clear hl_16
  obtain ⟨H17, hl_18⟩ := ops_next 17 18 rfl hl_17
  clear hl_17
  obtain ⟨H18, hl_19⟩ := ops_next 18 19 rfl hl_18
  clear hl_18
  obtain ⟨H19, hl_20⟩ := ops_next 19 20 rfl hl_19
  clear hl_19
  obtain ⟨H20, hl_21⟩ := ops_next 20 21 rfl hl_20
  clear hl_20
  obtain ⟨H21, hl_22⟩ := ops_next 21 22 rfl hl_21
  clear hl_21
  obtain ⟨H22, hl_23⟩ := ops_next 22 23 rfl hl_22
  clear hl_22
  obtain ⟨H23, hl_24⟩ := ops_next 23 24 rfl hl_23
  clear hl_23
  clear hl_24
  have x_2 : ext fr 2 = _ := congrArg (fun a => Act.eval a (.tmp 2)) HFR.out
  conv at x_2 => rhs; simp only [Act.eval, Array.getD_eq_getD_getElem?, List.getElem?_toArray, List.getElem?_cons_succ, List.getElem?_cons_zero, Option.getD_some]
  refine env_yes HSZ H0.out ?_ (fun w' hS => ?_) ?_
  rotate_left
  (go_simp
   rfl)
  refine env_yes HSZ H1.out ?_ (fun w' hS => ?_) ?_
  rotate_left
  (have h := (hS.cell (p := ⟨w.heap.size, 0, none⟩) lx).trans u0
   go_simp
   rfl)
  refine env_yes HSZ H2.out ?_ (fun w' hS => ?_) ?_
  rotate_left
  (go_simp
   rfl)
  refine env_yes HSZ H3.out ?_ (fun w' hS => ?_) ?_
  rotate_left
  (go_simp
   rfl)
  refine env_off HSZ H4.out H3.out (by first | rfl | go_simp) ?_
  refine env_off HSZ H5.out H3.out (by first | rfl | go_simp) ?_
  refine env_yes HSZ H6.out ?_ (fun w' hS => ?_) ?_
  rotate_left
  (go_simp
   rfl)
  refine env_yes HSZ H7.out ?_ (fun w' hS => ?_) ?_
  rotate_left
  (go_simp
   rfl)
  refine env_off HSZ H8.out H7.out (by first | rfl | go_simp) ?_
  refine env_off HSZ H9.out H7.out (by first | rfl | go_simp) ?_
  refine env_off HSZ H10.out H7.out (by first | rfl | go_simp) ?_
  refine env_yes HSZ H11.out ?_ (fun w' hS => ?_) ?_
  rotate_left
  (go_simp
   rfl)
  refine env_yes HSZ H12.out ?_ (fun w' hS => ?_) ?_
  rotate_left
  (go_simp
   rfl)
  refine env_off HSZ H13.out H12.out (by first | rfl | go_simp) ?_
  refine env_off HSZ H14.out H12.out (by first | rfl | go_simp) ?_
  refine env_off HSZ H15.out H12.out (by first | rfl | go_simp) ?_
  refine env_off HSZ H16.out H12.out (by first | rfl | go_simp) ?_
  refine env_off HSZ H17.out H12.out (by first | rfl | go_simp) ?_
  refine env_off HSZ H18.out H12.out (by first | rfl | go_simp) ?_
  refine env_off HSZ H19.out H12.out (by first | rfl | go_simp) ?_
  refine env_off HSZ H20.out H12.out (by first | rfl | go_simp) ?_
  refine env_off HSZ H21.out H12.out (by first | rfl | go_simp) ?_
  refine env_yes HSZ H22.out ?_ (fun w' hS => ?_) ?_
  rotate_left
  (go_simp
   rfl)
  refine env_yes HSZ H23.out ?_ (fun w' hS => ?_) ?_
  rotate_left
  (go_simp
   rfl)
  refine env_end ?_
  have hfr := HFR.out
  clear HFR HSZ H0 H1 H2 H3 H4 H5 H6 H7 H8 H9 H10 H11 H12 H13 H14 H15 H16 H17 H18 H19 H20 H21 H22 H23 x_2
  subst hfr
  simp only [putAll, Act.put, List.setIfInBounds_toArray, List.set_cons_succ, List.set_cons_zero]
  have K2n : Aside (Blk w6.drew w.heap.size _ _) := ⟨K2.out⟩
  have K4n : Aside (Blk w6.drew (w.heap.size + 1) _ _) := ⟨K4.out⟩
  have BLn := Aside.mk BL.out.drew
  clear u0 u1 u2 u3 u4 u5 u6 u7 f0 lx K2 K4 BL
  generalize w6.drew = w7 at K2n K4n BLn ⊢
  have K2 := K2n
  have K4 := K4n
  have BL := BLn
  clear K2n K4n BLn
  have u0 := K2.out.cell 0
  have u1 := K2.out.cell 1
  have u2 := K2.out.cell 2
  have u3 := K2.out.cell 3
  have u4 := K2.out.cell 4
  have u5 := K2.out.cell 5
  have u6 := K2.out.cell 6
  have u7 := K2.out.cell 7
  simp only [List.getElem?_cons_zero, List.getElem?_cons_succ] at u0 u1 u2 u3 u4 u5 u6 u7
  have f0 := K2.out.free 0
  have lx : w.heap.size < w7.heap.size := K2.out.lt
  have K2s : Aside (Blk (w7.setCell ⟨w.heap.size, 0, none⟩ (.int .i64 6)) w.heap.size 27 [.int .i64 6, .string name, .string cookie, .int .i64 flags, .int .i64 mine, .string calls, .string peer, .int .i64 both]) := ⟨K2.out.set 0 _⟩
  have K4s : Aside (Blk (w7.setCell ⟨w.heap.size, 0, none⟩ (.int .i64 6)) (w.heap.size + 1) 27 [.int .i64 0, .string ⟨#[]⟩, .string ⟨#[]⟩, .int .i64 0, .int .i64 0, .string ⟨#[]⟩, .string ⟨#[]⟩, .int .i64 0]) := ⟨K4.out.far (show w.heap.size + 1 ≠ w.heap.size by omega) _⟩
  have BLs : Aside (Below w.heap.size w (w7.setCell ⟨w.heap.size, 0, none⟩ (.int .i64 6))) := ⟨BL.out.setCell (Nat.le_refl _) _⟩
  have v0 := K2s.out.cell 0
  have v1 := K2s.out.cell 1
  have v2 := K2s.out.cell 2
  have v3 := K2s.out.cell 3
  have v4 := K2s.out.cell 4
  have v5 := K2s.out.cell 5
  have v6 := K2s.out.cell 6
  have v7 := K2s.out.cell 7
  simp only [List.getElem?_cons_zero, List.getElem?_cons_succ] at v0 v1 v2 v3 v4 v5 v6 v7
  go_wp2_with (refine wpList_store_blk rfl 27 _ _ rfl (w.heap.size + 1) [.int .i64 6, .string name, .string cookie, .int .i64 flags, .int .i64 mine, .string calls, .string peer, .int .i64 both] rfl rfl 27 [.int .i64 0, .string ⟨#[]⟩, .string ⟨#[]⟩, .int .i64 0, .int .i64 0, .string ⟨#[]⟩, .string ⟨#[]⟩, .int .i64 0] (K4s.out) (by kernel_rfl) rfl rfl ?_; intro w9 k9 hg9; have K9 := Aside.mk k9; have B9 := Aside.mk (below_grown (BLs.out) hg9 (by omega)); clear k9 hg9)
  refine bodyPost_ret (res_ctt rfl _ _ (w.heap.size + 1) 27 [.int .i64 6, .string name, .string cookie, .int .i64 flags, .int .i64 mine, .string calls, .string peer, .int .i64 both] _ rfl K9.out Tryd.underlying27 rfl (by kernel_rfl)) rfl ⟨.slice (some ⟨w.heap.size + 2, 0, none⟩) 0 0, by rw [E.out]; rfl, by rw [E.out]; exact strs_nil _ _ _, B9.out⟩
set_option maxRecDepth 100000 in
set_option maxHeartbeats 8000000 in
theorem sStep0c (name cookie : ByteArray) (flags mine : Int) (calls peer : ByteArray) (both : Int) (data : ByteArray) (w : World) (hn : name.size ≤ 1048576) (hc : cookie.size ≤ 100) (hf0 : 0 ≤ flags) (hf1 : flags ≤ 65535) (hm0 : 0 ≤ mine) (hm1 : mine ≤ 4294967295) (hca : calls.size ≤ 1048576) (hpe : peer.size ≤ 1048576) (hd : data.size ≤ 1048576) (hb : handB 0 name cookie flags mine calls peer both = true) (h0 : 0 < data.size) (hcb : ((data[0].toNat : Int) == 78) = true) (h3 : ¬ 3 < data.size) :
    Calls Tryd.prog 13 #[.agg #[.int .i64 0, .string name, .string cookie, .int .i64 flags, .int .i64 mine, .string calls, .string peer, .int .i64 both], .string data] w (StepOK w (hearsR 0 name cookie flags mine calls peer both data) 0) := by
  have E : Aside (hearsR 0 name cookie flags mine calls peer both data = ((6, name, cookie, flags, mine, calls, peer, both), [])) := ⟨by rw [sStep0_eq, hello, decide_eq_false h3, Bool.and_false, Bool.false_and]; rfl⟩
  generalize hearsR 0 name cookie flags mine calls peer both data = r at E ⊢
  have h0i : (0 : Int) < data.size := by omega
  have h3i : ¬ (3 : Int) < data.size := by omega
  have h3b : decide ((3 : Int) < data.size) = false := decide_eq_false h3i
  have HB := Aside.mk hb
  clear hb
  go_enter Tryd.func13, Tryd.ntmps13
  go_wp2_with fail
  obtain ⟨w3, hw3⟩ : ∃ x, x = ((w.alloc (.cells #[.int .i64 0, .string name, .string cookie, .int .i64 flags, .int .i64 mine, .string calls, .string peer, .int .i64 both] 27)).alloc (.cells #[.int .i64 0, .string ⟨#[]⟩, .string ⟨#[]⟩, .int .i64 0, .int .i64 0, .string ⟨#[]⟩, .string ⟨#[]⟩, .int .i64 0] 27)).alloc (.cells #[] 9) := ⟨_, rfl⟩
  rw [← hw3]
  have K2 : Aside (Blk w3 w.heap.size 27 [.int .i64 0, .string name, .string cookie, .int .i64 flags, .int .i64 mine, .string calls, .string peer, .int .i64 both]) := ⟨by rw [hw3]; exact ((Blk.new w 27 [.int .i64 0, .string name, .string cookie, .int .i64 flags, .int .i64 mine, .string calls, .string peer, .int .i64 both]).alloc _).alloc _⟩
  have K4 : Aside (Blk w3 (w.heap.size + 1) 27 [.int .i64 0, .string ⟨#[]⟩, .string ⟨#[]⟩, .int .i64 0, .int .i64 0, .string ⟨#[]⟩, .string ⟨#[]⟩, .int .i64 0]) := ⟨by rw [hw3]; exact (Blk.made (w.alloc _) 27 [.int .i64 0, .string ⟨#[]⟩, .string ⟨#[]⟩, .int .i64 0, .int .i64 0, .string ⟨#[]⟩, .string ⟨#[]⟩, .int .i64 0] (by simp)).alloc _⟩
  have BL : Aside (Below w.heap.size w w3) := ⟨by rw [hw3]; go_grown⟩
  clear hw3
  refine (l13Hand 0 name cookie flags mine calls peer both w3 (by omega) (by omega) (by omega) (by omega)).mono ?_
  rintro e w4 ⟨rfl, hb⟩
  rw [HB.out]
  have K2n := Aside.mk (K2.out.below hb)
  have K4n := Aside.mk (K4.out.below hb)
  have BLn := Aside.mk (below_later BL.out hb)
  clear K2 K4 BL
  have K2 := K2n
  have K4 := K4n
  have BL := BLn
  clear BLn K2n K4n
  clear hb HB
  have u0 := K2.out.cell 0
  have u1 := K2.out.cell 1
  have u2 := K2.out.cell 2
  have u3 := K2.out.cell 3
  have u4 := K2.out.cell 4
  have u5 := K2.out.cell 5
  have u6 := K2.out.cell 6
  have u7 := K2.out.cell 7
  simp only [List.getElem?_cons_zero, List.getElem?_cons_succ] at u0 u1 u2 u3 u4 u5 u6 u7
  have f0 := K2.out.free 0
  have lx : w.heap.size < w4.heap.size := K2.out.lt
  go_wp2_with fail
  refine region_env [(0, true), (1, true), (2, true), (3, true), (4, true), (5, true), (6, true), (7, true), (8, true), (9, true), (10, true), (11, true), (12, true), (13, true), (14, true), (15, true), (16, true), (17, true), (18, true), (19, true), (20, true), (21, true), (22, true), (23, true), (24, true)] (fun w' => Below w4.heap.size w4 w') 220 rfl (by kernel_rfl) (by kernel_rfl) (fun _ _ d _ _ h => by cases d <;> exact h) ((Below.refl _ _).drew) (fun ops fr HFR HSZ hl => ?_)
  have hl_0 := ops_start hl
  clear hl
  obtain ⟨H0, hl_1⟩ := ops_next 0 1 rfl hl_0
  clear hl_0
  obtain ⟨H1, hl_2⟩ := ops_next 1 2 rfl hl_1
  clear hl_1
  obtain ⟨H2, hl_3⟩ := ops_next 2 3 rfl hl_2
  clear hl_2
  obtain ⟨H3, hl_4⟩ := ops_next 3 4 rfl hl_3
  clear hl_3
  obtain ⟨H4, hl_5⟩ := ops_next 4 5 rfl hl_4
  clear hl_4
  obtain ⟨H5, hl_6⟩ := ops_next 5 6 rfl hl_5
  clear hl_5
  obtain ⟨H6, hl_7⟩ := ops_next 6 7 rfl hl_6
  clear hl_6
  obtain ⟨H7, hl_8⟩ := ops_next 7 8 rfl hl_7
  clear hl_7
  obtain ⟨H8, hl_9⟩ := ops_next 8 9 rfl hl_8
  clear hl_8
  obtain ⟨H9, hl_10⟩ := ops_next 9 10 rfl hl_9
  clear hl_9
  obtain ⟨H10, hl_11⟩ := ops_next 10 11 rfl hl_10
  clear hl_10
  obtain ⟨H11, hl_12⟩ := ops_next 11 12 rfl hl_11
  clear hl_11
  obtain ⟨H12, hl_13⟩ := ops_next 12 13 rfl hl_12
  clear hl_12
  obtain ⟨H13, hl_14⟩ := ops_next 13 14 rfl hl_13
  clear hl_13
  obtain ⟨H14, hl_15⟩ := ops_next 14 15 rfl hl_14
  clear hl_14
  obtain ⟨H15, hl_16⟩ := ops_next 15 16 rfl hl_15
  clear hl_15
  obtain ⟨H16, hl_17⟩ := ops_next 16 17 rfl hl_16
  clear hl_16
  obtain ⟨H17, hl_18⟩ := ops_next 17 18 rfl hl_17
  clear hl_17
  obtain ⟨H18, hl_19⟩ := ops_next 18 19 rfl hl_18
  clear hl_18
  obtain ⟨H19, hl_20⟩ := ops_next 19 20 rfl hl_19
  clear hl_19
  obtain ⟨H20, hl_21⟩ := ops_next 20 21 rfl hl_20
  clear hl_20
  obtain ⟨H21, hl_22⟩ := ops_next 21 22 rfl hl_21
  clear hl_21
  obtain ⟨H22, hl_23⟩ := ops_next 22 23 rfl hl_22
  clear hl_22
  obtain ⟨H23, hl_24⟩ := ops_next 23 24 rfl hl_23
  clear hl_23
  obtain ⟨H24, hl_25⟩ := ops_next 24 25 rfl hl_24
  clear hl_24
  clear hl_25
  have x_2 : ext fr 2 = _ := congrArg (fun a => Act.eval a (.tmp 2)) HFR.out
  conv at x_2 => rhs; simp only [Act.eval, Array.getD_eq_getD_getElem?, List.getElem?_toArray, List.getElem?_cons_succ, List.getElem?_cons_zero, Option.getD_some]
  refine env_yes HSZ H0.out ?_ (fun w' hS => ?_) ?_
  rotate_left
  (go_simp
   rfl)
  refine env_yes HSZ H1.out ?_ (fun w' hS => ?_) ?_
  rotate_left
  (have h := (hS.cell (p := ⟨w.heap.size, 0, none⟩) lx).trans u0
   go_simp
   rfl)
  refine env_yes HSZ H2.out ?_ (fun w' hS => ?_) ?_
  rotate_left
  (go_simp
   rfl)
  refine env_yes HSZ H3.out ?_ (fun w' hS => ?_) ?_
  rotate_left
  (go_simp
   rfl)
  refine env_off HSZ H4.out H3.out (by first | rfl | go_simp) ?_
  refine env_off HSZ H5.out H3.out (by first | rfl | go_simp) ?_
  refine env_yes HSZ H6.out ?_ (fun w' hS => ?_) ?_
  rotate_left
  (go_simp
   rfl)
  refine env_yes HSZ H7.out ?_ (fun w' hS => ?_) ?_
  rotate_left
  (go_simp
   rfl)
  refine env_off HSZ H8.out H7.out (by first | rfl | go_simp) ?_
  refine env_off HSZ H9.out H7.out (by first | rfl | go_simp) ?_
  refine env_off HSZ H10.out H7.out (by first | rfl | go_simp) ?_
  refine env_yes HSZ H11.out ?_ (fun w' hS => ?_) ?_
  rotate_left
  (go_simp
   rfl)
  refine env_yes HSZ H12.out ?_ (fun w' hS => ?_) ?_
  rotate_left
  (go_simp
   rfl)
  refine env_off HSZ H13.out H12.out (by first | rfl | go_simp) ?_
  refine env_off HSZ H14.out H12.out (by first | rfl | go_simp) ?_
  refine env_off HSZ H15.out H12.out (by first | rfl | go_simp) ?_
  refine env_yes HSZ H16.out ?_ (fun w' hS => ?_) ?_
  rotate_left
  (go_simp
   rfl)
  refine env_yes HSZ H17.out ?_ (fun w' hS => ?_) ?_
  rotate_left
  (go_simp
   rfl)
  refine env_off HSZ H18.out H17.out (by first | rfl | go_simp) ?_
  refine env_off HSZ H19.out H17.out (by first | rfl | go_simp) ?_
  refine env_off HSZ H20.out H17.out (by first | rfl | go_simp) ?_
  refine env_off HSZ H21.out H17.out (by first | rfl | go_simp) ?_
  refine env_off HSZ H22.out H17.out (by first | rfl | go_simp) ?_
  refine env_yes HSZ H23.out ?_ (fun w' hS => ?_) ?_
  rotate_left
  (go_simp
   rfl)
  refine env_yes HSZ H24.out ?_ (fun w' hS => ?_) ?_
  rotate_left
  (go_simp
   rfl)
  refine env_end ?_
  have hfr := HFR.out
  clear HFR HSZ H0 H1 H2 H3 H4 H5 H6 H7 H8 H9 H10 H11 H12 H13 H14 H15 H16 H17 H18 H19 H20 H21 H22 H23 H24 x_2
  subst hfr
  simp only [putAll, Act.put, List.setIfInBounds_toArray, List.set_cons_succ, List.set_cons_zero]
  have K2n : Aside (Blk w4.drew w.heap.size _ _) := ⟨K2.out⟩
  have K4n : Aside (Blk w4.drew (w.heap.size + 1) _ _) := ⟨K4.out⟩
  have BLn := Aside.mk BL.out.drew
  clear u0 u1 u2 u3 u4 u5 u6 u7 f0 lx K2 K4 BL
  generalize w4.drew = w5 at K2n K4n BLn ⊢
  have K2 := K2n
  have K4 := K4n
  have BL := BLn
  clear K2n K4n BLn
  have u0 := K2.out.cell 0
  have u1 := K2.out.cell 1
  have u2 := K2.out.cell 2
  have u3 := K2.out.cell 3
  have u4 := K2.out.cell 4
  have u5 := K2.out.cell 5
  have u6 := K2.out.cell 6
  have u7 := K2.out.cell 7
  simp only [List.getElem?_cons_zero, List.getElem?_cons_succ] at u0 u1 u2 u3 u4 u5 u6 u7
  have f0 := K2.out.free 0
  have lx : w.heap.size < w5.heap.size := K2.out.lt
  go_wp2_with fail
  refine region_env [(0, true), (1, true), (2, true), (3, true), (4, true), (5, true), (6, true), (7, true), (8, true), (9, true), (10, true), (11, true), (12, true), (13, true), (14, true), (15, true), (16, true), (17, true), (18, true), (19, true), (20, true), (21, true), (22, true), (23, true)] (fun w' => Below w5.heap.size w5 w') 220 rfl (by kernel_rfl) (by kernel_rfl) (fun _ _ d _ _ h => by cases d <;> exact h) ((Below.refl _ _).drew) (fun ops fr HFR HSZ hl => ?_)
  have hl_0 := ops_start hl
  clear hl
  obtain ⟨H0, hl_1⟩ := ops_next 0 1 rfl hl_0
  clear hl_0
  obtain ⟨H1, hl_2⟩ := ops_next 1 2 rfl hl_1
  clear hl_1
  obtain ⟨H2, hl_3⟩ := ops_next 2 3 rfl hl_2
  clear hl_2
  obtain ⟨H3, hl_4⟩ := ops_next 3 4 rfl hl_3
  clear hl_3
  obtain ⟨H4, hl_5⟩ := ops_next 4 5 rfl hl_4
  clear hl_4
  obtain ⟨H5, hl_6⟩ := ops_next 5 6 rfl hl_5
  clear hl_5
  obtain ⟨H6, hl_7⟩ := ops_next 6 7 rfl hl_6
  clear hl_6
  obtain ⟨H7, hl_8⟩ := ops_next 7 8 rfl hl_7
  clear hl_7
  obtain ⟨H8, hl_9⟩ := ops_next 8 9 rfl hl_8
  clear hl_8
  obtain ⟨H9, hl_10⟩ := ops_next 9 10 rfl hl_9
  clear hl_9
  obtain ⟨H10, hl_11⟩ := ops_next 10 11 rfl hl_10
  clear hl_10
  obtain ⟨H11, hl_12⟩ := ops_next 11 12 rfl hl_11
  clear hl_11
  obtain ⟨H12, hl_13⟩ := ops_next 12 13 rfl hl_12
  clear hl_12
  obtain ⟨H13, hl_14⟩ := ops_next 13 14 rfl hl_13
  clear hl_13
  obtain ⟨H14, hl_15⟩ := ops_next 14 15 rfl hl_14
  clear hl_14
  obtain ⟨H15, hl_16⟩ := ops_next 15 16 rfl hl_15
  clear hl_15
  obtain ⟨H16, hl_17⟩ := ops_next 16 17 rfl hl_16
  clear hl_16
  obtain ⟨H17, hl_18⟩ := ops_next 17 18 rfl hl_17
  clear hl_17
  obtain ⟨H18, hl_19⟩ := ops_next 18 19 rfl hl_18
  clear hl_18
  obtain ⟨H19, hl_20⟩ := ops_next 19 20 rfl hl_19
  clear hl_19
  obtain ⟨H20, hl_21⟩ := ops_next 20 21 rfl hl_20
  clear hl_20
  obtain ⟨H21, hl_22⟩ := ops_next 21 22 rfl hl_21
  clear hl_21
  obtain ⟨H22, hl_23⟩ := ops_next 22 23 rfl hl_22
  clear hl_22
  obtain ⟨H23, hl_24⟩ := ops_next 23 24 rfl hl_23
  clear hl_23
  clear hl_24
  have x_2 : ext fr 2 = _ := congrArg (fun a => Act.eval a (.tmp 2)) HFR.out
  conv at x_2 => rhs; simp only [Act.eval, Array.getD_eq_getD_getElem?, List.getElem?_toArray, List.getElem?_cons_succ, List.getElem?_cons_zero, Option.getD_some]
  refine env_yes HSZ H0.out ?_ (fun w' hS => ?_) ?_
  rotate_left
  (go_simp
   rfl)
  refine env_yes HSZ H1.out ?_ (fun w' hS => ?_) ?_
  rotate_left
  (have h := (hS.cell (p := ⟨w.heap.size, 0, none⟩) lx).trans u0
   go_simp
   rfl)
  refine env_yes HSZ H2.out ?_ (fun w' hS => ?_) ?_
  rotate_left
  (go_simp
   rfl)
  refine env_yes HSZ H3.out ?_ (fun w' hS => ?_) ?_
  rotate_left
  (go_simp
   rfl)
  refine env_off HSZ H4.out H3.out (by first | rfl | go_simp) ?_
  refine env_off HSZ H5.out H3.out (by first | rfl | go_simp) ?_
  refine env_yes HSZ H6.out ?_ (fun w' hS => ?_) ?_
  rotate_left
  (go_simp
   rfl)
  refine env_yes HSZ H7.out ?_ (fun w' hS => ?_) ?_
  rotate_left
  (go_simp
   rfl)
  refine env_off HSZ H8.out H7.out (by first | rfl | go_simp) ?_
  refine env_off HSZ H9.out H7.out (by first | rfl | go_simp) ?_
  refine env_off HSZ H10.out H7.out (by first | rfl | go_simp) ?_
  refine env_yes HSZ H11.out ?_ (fun w' hS => ?_) ?_
  rotate_left
  (go_simp
   rfl)
  refine env_yes HSZ H12.out ?_ (fun w' hS => ?_) ?_
  rotate_left
  (go_simp
   rfl)
  refine env_off HSZ H13.out H12.out (by first | rfl | go_simp) ?_
  refine env_off HSZ H14.out H12.out (by first | rfl | go_simp) ?_
  refine env_off HSZ H15.out H12.out (by first | rfl | go_simp) ?_
  refine env_off HSZ H16.out H12.out (by first | rfl | go_simp) ?_
  refine env_off HSZ H17.out H12.out (by first | rfl | go_simp) ?_
  refine env_off HSZ H18.out H12.out (by first | rfl | go_simp) ?_
  refine env_off HSZ H19.out H12.out (by first | rfl | go_simp) ?_
  refine env_off HSZ H20.out H12.out (by first | rfl | go_simp) ?_
  refine env_off HSZ H21.out H12.out (by first | rfl | go_simp) ?_
  refine env_yes HSZ H22.out ?_ (fun w' hS => ?_) ?_
  rotate_left
  (go_simp
   rfl)
  refine env_yes HSZ H23.out ?_ (fun w' hS => ?_) ?_
  rotate_left
  (go_simp
   rfl)
  refine env_end ?_
  have hfr := HFR.out
  clear HFR HSZ H0 H1 H2 H3 H4 H5 H6 H7 H8 H9 H10 H11 H12 H13 H14 H15 H16 H17 H18 H19 H20 H21 H22 H23 x_2
  subst hfr
  simp only [putAll, Act.put, List.setIfInBounds_toArray, List.set_cons_succ, List.set_cons_zero]
  have K2n : Aside (Blk w5.drew w.heap.size _ _) := ⟨K2.out⟩
  have K4n : Aside (Blk w5.drew (w.heap.size + 1) _ _) := ⟨K4.out⟩
  have BLn := Aside.mk BL.out.drew
  clear u0 u1 u2 u3 u4 u5 u6 u7 f0 lx K2 K4 BL
  generalize w5.drew = w6 at K2n K4n BLn ⊢
  have K2 := K2n
  have K4 := K4n
  have BL := BLn
  clear K2n K4n BLn
  have u0 := K2.out.cell 0
  have u1 := K2.out.cell 1
  have u2 := K2.out.cell 2
  have u3 := K2.out.cell 3
  have u4 := K2.out.cell 4
  have u5 := K2.out.cell 5
  have u6 := K2.out.cell 6
  have u7 := K2.out.cell 7
  simp only [List.getElem?_cons_zero, List.getElem?_cons_succ] at u0 u1 u2 u3 u4 u5 u6 u7
  have f0 := K2.out.free 0
  have lx : w.heap.size < w6.heap.size := K2.out.lt
  go_wp2_with fail
  refine region_env [(0, true), (1, true), (2, true), (3, true), (4, true), (5, true), (6, true), (7, true), (8, true), (9, true), (10, true), (11, true), (12, true), (13, true), (14, true), (15, true), (16, true), (17, true), (18, true), (19, true), (20, true), (21, true), (22, true), (23, true)] (fun w' => Below w6.heap.size w6 w') 220 rfl (by kernel_rfl) (by kernel_rfl) (fun _ _ d _ _ h => by cases d <;> exact h) ((Below.refl _ _).drew) (fun ops fr HFR HSZ hl => ?_)
  have hl_0 := ops_start hl
  clear hl
  obtain ⟨H0, hl_1⟩ := ops_next 0 1 rfl hl_0
  clear hl_0
  obtain ⟨H1, hl_2⟩ := ops_next 1 2 rfl hl_1
  clear hl_1
  obtain ⟨H2, hl_3⟩ := ops_next 2 3 rfl hl_2
  clear hl_2
  obtain ⟨H3, hl_4⟩ := ops_next 3 4 rfl hl_3
  clear hl_3
  obtain ⟨H4, hl_5⟩ := ops_next 4 5 rfl hl_4
  clear hl_4
  obtain ⟨H5, hl_6⟩ := ops_next 5 6 rfl hl_5
  clear hl_5
  obtain ⟨H6, hl_7⟩ := ops_next 6 7 rfl hl_6
  clear hl_6
  obtain ⟨H7, hl_8⟩ := ops_next 7 8 rfl hl_7
  clear hl_7
  obtain ⟨H8, hl_9⟩ := ops_next 8 9 rfl hl_8
  clear hl_8
  obtain ⟨H9, hl_10⟩ := ops_next 9 10 rfl hl_9
  clear hl_9
  obtain ⟨H10, hl_11⟩ := ops_next 10 11 rfl hl_10
  clear hl_10
  obtain ⟨H11, hl_12⟩ := ops_next 11 12 rfl hl_11
  clear hl_11
  obtain ⟨H12, hl_13⟩ := ops_next 12 13 rfl hl_12
  clear hl_12
  obtain ⟨H13, hl_14⟩ := ops_next 13 14 rfl hl_13
  clear hl_13
  obtain ⟨H14, hl_15⟩ := ops_next 14 15 rfl hl_14
  clear hl_14
  obtain ⟨H15, hl_16⟩ := ops_next 15 16 rfl hl_15
  clear hl_15
  obtain ⟨H16, hl_17⟩ := ops_next 16 17 rfl hl_16
  clear hl_16
  obtain ⟨H17, hl_18⟩ := ops_next 17 18 rfl hl_17
  clear hl_17
  obtain ⟨H18, hl_19⟩ := ops_next 18 19 rfl hl_18
  clear hl_18
  obtain ⟨H19, hl_20⟩ := ops_next 19 20 rfl hl_19
  clear hl_19
  obtain ⟨H20, hl_21⟩ := ops_next 20 21 rfl hl_20
  clear hl_20
  obtain ⟨H21, hl_22⟩ := ops_next 21 22 rfl hl_21
  clear hl_21
  obtain ⟨H22, hl_23⟩ := ops_next 22 23 rfl hl_22
  clear hl_22
  obtain ⟨H23, hl_24⟩ := ops_next 23 24 rfl hl_23
  clear hl_23
  clear hl_24
  have x_2 : ext fr 2 = _ := congrArg (fun a => Act.eval a (.tmp 2)) HFR.out
  conv at x_2 => rhs; simp only [Act.eval, Array.getD_eq_getD_getElem?, List.getElem?_toArray, List.getElem?_cons_succ, List.getElem?_cons_zero, Option.getD_some]
  refine env_yes HSZ H0.out ?_ (fun w' hS => ?_) ?_
  rotate_left
  (go_simp
   rfl)
  refine env_yes HSZ H1.out ?_ (fun w' hS => ?_) ?_
  rotate_left
  (have h := (hS.cell (p := ⟨w.heap.size, 0, none⟩) lx).trans u0
   go_simp
   rfl)
  refine env_yes HSZ H2.out ?_ (fun w' hS => ?_) ?_
  rotate_left
  (go_simp
   rfl)
  refine env_yes HSZ H3.out ?_ (fun w' hS => ?_) ?_
  rotate_left
  (go_simp
   rfl)
  refine env_off HSZ H4.out H3.out (by first | rfl | go_simp) ?_
  refine env_off HSZ H5.out H3.out (by first | rfl | go_simp) ?_
  refine env_yes HSZ H6.out ?_ (fun w' hS => ?_) ?_
  rotate_left
  (go_simp
   rfl)
  refine env_yes HSZ H7.out ?_ (fun w' hS => ?_) ?_
  rotate_left
  (go_simp
   rfl)
  refine env_off HSZ H8.out H7.out (by first | rfl | go_simp) ?_
  refine env_off HSZ H9.out H7.out (by first | rfl | go_simp) ?_
  refine env_off HSZ H10.out H7.out (by first | rfl | go_simp) ?_
  refine env_yes HSZ H11.out ?_ (fun w' hS => ?_) ?_
  rotate_left
  (go_simp
   rfl)
  refine env_yes HSZ H12.out ?_ (fun w' hS => ?_) ?_
  rotate_left
  (go_simp
   rfl)
  refine env_off HSZ H13.out H12.out (by first | rfl | go_simp) ?_
  refine env_off HSZ H14.out H12.out (by first | rfl | go_simp) ?_
  refine env_off HSZ H15.out H12.out (by first | rfl | go_simp) ?_
  refine env_off HSZ H16.out H12.out (by first | rfl | go_simp) ?_
  refine env_off HSZ H17.out H12.out (by first | rfl | go_simp) ?_
  refine env_off HSZ H18.out H12.out (by first | rfl | go_simp) ?_
  refine env_off HSZ H19.out H12.out (by first | rfl | go_simp) ?_
  refine env_off HSZ H20.out H12.out (by first | rfl | go_simp) ?_
  refine env_off HSZ H21.out H12.out (by first | rfl | go_simp) ?_
  refine env_yes HSZ H22.out ?_ (fun w' hS => ?_) ?_
  rotate_left
  (go_simp
   rfl)
  refine env_yes HSZ H23.out ?_ (fun w' hS => ?_) ?_
  rotate_left
  (go_simp
   rfl)
  refine env_end ?_
  have hfr := HFR.out
  clear HFR HSZ H0 H1 H2 H3 H4 H5 H6 H7 H8 H9 H10 H11 H12 H13 H14 H15 H16 H17 H18 H19 H20 H21 H22 H23 x_2
  subst hfr
  simp only [putAll, Act.put, List.setIfInBounds_toArray, List.set_cons_succ, List.set_cons_zero]
  have K2n : Aside (Blk w6.drew w.heap.size _ _) := ⟨K2.out⟩
  have K4n : Aside (Blk w6.drew (w.heap.size + 1) _ _) := ⟨K4.out⟩
  have BLn := Aside.mk BL.out.drew
  clear u0 u1 u2 u3 u4 u5 u6 u7 f0 lx K2 K4 BL
  generalize w6.drew = w7 at K2n K4n BLn ⊢
  have K2 := K2n
  have K4 := K4n
  have BL := BLn
  clear K2n K4n BLn
  have u0 := K2.out.cell 0
  have u1 := K2.out.cell 1
  have u2 := K2.out.cell 2
  have u3 := K2.out.cell 3
  have u4 := K2.out.cell 4
  have u5 := K2.out.cell 5
  have u6 := K2.out.cell 6
  have u7 := K2.out.cell 7
  simp only [List.getElem?_cons_zero, List.getElem?_cons_succ] at u0 u1 u2 u3 u4 u5 u6 u7
  have f0 := K2.out.free 0
  have lx : w.heap.size < w7.heap.size := K2.out.lt
  have K2s : Aside (Blk (w7.setCell ⟨w.heap.size, 0, none⟩ (.int .i64 6)) w.heap.size 27 [.int .i64 6, .string name, .string cookie, .int .i64 flags, .int .i64 mine, .string calls, .string peer, .int .i64 both]) := ⟨K2.out.set 0 _⟩
  have K4s : Aside (Blk (w7.setCell ⟨w.heap.size, 0, none⟩ (.int .i64 6)) (w.heap.size + 1) 27 [.int .i64 0, .string ⟨#[]⟩, .string ⟨#[]⟩, .int .i64 0, .int .i64 0, .string ⟨#[]⟩, .string ⟨#[]⟩, .int .i64 0]) := ⟨K4.out.far (show w.heap.size + 1 ≠ w.heap.size by omega) _⟩
  have BLs : Aside (Below w.heap.size w (w7.setCell ⟨w.heap.size, 0, none⟩ (.int .i64 6))) := ⟨BL.out.setCell (Nat.le_refl _) _⟩
  have v0 := K2s.out.cell 0
  have v1 := K2s.out.cell 1
  have v2 := K2s.out.cell 2
  have v3 := K2s.out.cell 3
  have v4 := K2s.out.cell 4
  have v5 := K2s.out.cell 5
  have v6 := K2s.out.cell 6
  have v7 := K2s.out.cell 7
  simp only [List.getElem?_cons_zero, List.getElem?_cons_succ] at v0 v1 v2 v3 v4 v5 v6 v7
  go_wp2_with (refine wpList_store_blk rfl 27 _ _ rfl (w.heap.size + 1) [.int .i64 6, .string name, .string cookie, .int .i64 flags, .int .i64 mine, .string calls, .string peer, .int .i64 both] rfl rfl 27 [.int .i64 0, .string ⟨#[]⟩, .string ⟨#[]⟩, .int .i64 0, .int .i64 0, .string ⟨#[]⟩, .string ⟨#[]⟩, .int .i64 0] (K4s.out) (by kernel_rfl) rfl rfl ?_; intro w9 k9 hg9; have K9 := Aside.mk k9; have B9 := Aside.mk (below_grown (BLs.out) hg9 (by omega)); clear k9 hg9)
  refine bodyPost_ret (res_ctt rfl _ _ (w.heap.size + 1) 27 [.int .i64 6, .string name, .string cookie, .int .i64 flags, .int .i64 mine, .string calls, .string peer, .int .i64 both] _ rfl K9.out Tryd.underlying27 rfl (by kernel_rfl)) rfl ⟨.slice (some ⟨w.heap.size + 2, 0, none⟩) 0 0, by rw [E.out]; rfl, by rw [E.out]; exact strs_nil _ _ _, B9.out⟩
set_option maxRecDepth 100000 in
set_option maxHeartbeats 8000000 in
theorem sStep0d (name cookie : ByteArray) (flags mine : Int) (calls peer : ByteArray) (both : Int) (data : ByteArray) (w : World) (hn : name.size ≤ 1048576) (hc : cookie.size ≤ 100) (hf0 : 0 ≤ flags) (hf1 : flags ≤ 65535) (hm0 : 0 ≤ mine) (hm1 : mine ≤ 4294967295) (hca : calls.size ≤ 1048576) (hpe : peer.size ≤ 1048576) (hd : data.size ≤ 1048576) (hb : handB 0 name cookie flags mine calls peer both = true) (h0 : 0 < data.size) (hcb : ((data[0].toNat : Int) == 78) = true) (h3 : 3 < data.size) (hnm : nameB (data.extract 3 data.size) = false) :
    Calls Tryd.prog 13 #[.agg #[.int .i64 0, .string name, .string cookie, .int .i64 flags, .int .i64 mine, .string calls, .string peer, .int .i64 both], .string data] w (StepOK w (hearsR 0 name cookie flags mine calls peer both data) 0) := by
  have E : Aside (hearsR 0 name cookie flags mine calls peer both data = ((6, name, cookie, flags, mine, calls, peer, both), [])) := ⟨by rw [sStep0_eq, hello, hnm, Bool.and_false]; rfl⟩
  generalize hearsR 0 name cookie flags mine calls peer both data = r at E ⊢
  have h0i : (0 : Int) < data.size := by omega
  have h3i : (3 : Int) < data.size := by omega
  have h3j : (3 : Int) ≤ data.size := by omega
  have HNM := Aside.mk hnm
  clear hnm
  have HB := Aside.mk hb
  clear hb
  go_enter Tryd.func13, Tryd.ntmps13
  go_wp2_with fail
  obtain ⟨w3, hw3⟩ : ∃ x, x = ((w.alloc (.cells #[.int .i64 0, .string name, .string cookie, .int .i64 flags, .int .i64 mine, .string calls, .string peer, .int .i64 both] 27)).alloc (.cells #[.int .i64 0, .string ⟨#[]⟩, .string ⟨#[]⟩, .int .i64 0, .int .i64 0, .string ⟨#[]⟩, .string ⟨#[]⟩, .int .i64 0] 27)).alloc (.cells #[] 9) := ⟨_, rfl⟩
  rw [← hw3]
  have K2 : Aside (Blk w3 w.heap.size 27 [.int .i64 0, .string name, .string cookie, .int .i64 flags, .int .i64 mine, .string calls, .string peer, .int .i64 both]) := ⟨by rw [hw3]; exact ((Blk.new w 27 [.int .i64 0, .string name, .string cookie, .int .i64 flags, .int .i64 mine, .string calls, .string peer, .int .i64 both]).alloc _).alloc _⟩
  have K4 : Aside (Blk w3 (w.heap.size + 1) 27 [.int .i64 0, .string ⟨#[]⟩, .string ⟨#[]⟩, .int .i64 0, .int .i64 0, .string ⟨#[]⟩, .string ⟨#[]⟩, .int .i64 0]) := ⟨by rw [hw3]; exact (Blk.made (w.alloc _) 27 [.int .i64 0, .string ⟨#[]⟩, .string ⟨#[]⟩, .int .i64 0, .int .i64 0, .string ⟨#[]⟩, .string ⟨#[]⟩, .int .i64 0] (by simp)).alloc _⟩
  have BL : Aside (Below w.heap.size w w3) := ⟨by rw [hw3]; go_grown⟩
  clear hw3
  refine (l13Hand 0 name cookie flags mine calls peer both w3 (by omega) (by omega) (by omega) (by omega)).mono ?_
  rintro e w4 ⟨rfl, hb⟩
  rw [HB.out]
  have K2n := Aside.mk (K2.out.below hb)
  have K4n := Aside.mk (K4.out.below hb)
  have BLn := Aside.mk (below_later BL.out hb)
  clear K2 K4 BL
  have K2 := K2n
  have K4 := K4n
  have BL := BLn
  clear BLn K2n K4n
  clear hb HB
  have u0 := K2.out.cell 0
  have u1 := K2.out.cell 1
  have u2 := K2.out.cell 2
  have u3 := K2.out.cell 3
  have u4 := K2.out.cell 4
  have u5 := K2.out.cell 5
  have u6 := K2.out.cell 6
  have u7 := K2.out.cell 7
  simp only [List.getElem?_cons_zero, List.getElem?_cons_succ] at u0 u1 u2 u3 u4 u5 u6 u7
  have f0 := K2.out.free 0
  have lx : w.heap.size < w4.heap.size := K2.out.lt
  go_wp2_with fail
  refine (l01Name (data.extract 3 data.size) _ (by rw [ByteArray.size_extract]; omega)).mono ?_
  rintro e w' ⟨rfl, rfl⟩
  rw [HNM.out]
  go_wp2_with fail
  refine region_env [(0, true), (1, true), (2, true), (3, true), (4, true), (5, true), (6, true), (7, true), (8, true), (9, true), (10, true), (11, true), (12, true), (13, true), (14, true), (15, true), (16, true), (17, true), (18, true), (19, true), (20, true), (21, true), (22, true), (23, true), (24, true)] (fun w' => Below w4.heap.size w4 w') 220 rfl (by kernel_rfl) (by kernel_rfl) (fun _ _ d _ _ h => by cases d <;> exact h) ((Below.refl _ _).drew) (fun ops fr HFR HSZ hl => ?_)
  have hl_0 := ops_start hl
  clear hl
  obtain ⟨H0, hl_1⟩ := ops_next 0 1 rfl hl_0
  clear hl_0
  obtain ⟨H1, hl_2⟩ := ops_next 1 2 rfl hl_1
  clear hl_1
  obtain ⟨H2, hl_3⟩ := ops_next 2 3 rfl hl_2
  clear hl_2
  obtain ⟨H3, hl_4⟩ := ops_next 3 4 rfl hl_3
  clear hl_3
  obtain ⟨H4, hl_5⟩ := ops_next 4 5 rfl hl_4
  clear hl_4
  obtain ⟨H5, hl_6⟩ := ops_next 5 6 rfl hl_5
  clear hl_5
  obtain ⟨H6, hl_7⟩ := ops_next 6 7 rfl hl_6
  clear hl_6
  obtain ⟨H7, hl_8⟩ := ops_next 7 8 rfl hl_7
  clear hl_7
  obtain ⟨H8, hl_9⟩ := ops_next 8 9 rfl hl_8
  clear hl_8
  obtain ⟨H9, hl_10⟩ := ops_next 9 10 rfl hl_9
  clear hl_9
  obtain ⟨H10, hl_11⟩ := ops_next 10 11 rfl hl_10
  clear hl_10
  obtain ⟨H11, hl_12⟩ := ops_next 11 12 rfl hl_11
  clear hl_11
  obtain ⟨H12, hl_13⟩ := ops_next 12 13 rfl hl_12
  clear hl_12
  obtain ⟨H13, hl_14⟩ := ops_next 13 14 rfl hl_13
  clear hl_13
  obtain ⟨H14, hl_15⟩ := ops_next 14 15 rfl hl_14
  clear hl_14
  obtain ⟨H15, hl_16⟩ := ops_next 15 16 rfl hl_15
  clear hl_15
  obtain ⟨H16, hl_17⟩ := ops_next 16 17 rfl hl_16
  clear hl_16
  obtain ⟨H17, hl_18⟩ := ops_next 17 18 rfl hl_17
  clear hl_17
  obtain ⟨H18, hl_19⟩ := ops_next 18 19 rfl hl_18
  clear hl_18
  obtain ⟨H19, hl_20⟩ := ops_next 19 20 rfl hl_19
  clear hl_19
  obtain ⟨H20, hl_21⟩ := ops_next 20 21 rfl hl_20
  clear hl_20
  obtain ⟨H21, hl_22⟩ := ops_next 21 22 rfl hl_21
  clear hl_21
  obtain ⟨H22, hl_23⟩ := ops_next 22 23 rfl hl_22
  clear hl_22
  obtain ⟨H23, hl_24⟩ := ops_next 23 24 rfl hl_23
  clear hl_23
  obtain ⟨H24, hl_25⟩ := ops_next 24 25 rfl hl_24
  clear hl_24
  clear hl_25
  have x_2 : ext fr 2 = _ := congrArg (fun a => Act.eval a (.tmp 2)) HFR.out
  conv at x_2 => rhs; simp only [Act.eval, Array.getD_eq_getD_getElem?, List.getElem?_toArray, List.getElem?_cons_succ, List.getElem?_cons_zero, Option.getD_some]
  refine env_yes HSZ H0.out ?_ (fun w' hS => ?_) ?_
  rotate_left
  (go_simp
   rfl)
  refine env_yes HSZ H1.out ?_ (fun w' hS => ?_) ?_
  rotate_left
  (have h := (hS.cell (p := ⟨w.heap.size, 0, none⟩) lx).trans u0
   go_simp
   rfl)
  refine env_yes HSZ H2.out ?_ (fun w' hS => ?_) ?_
  rotate_left
  (go_simp
   rfl)
  refine env_yes HSZ H3.out ?_ (fun w' hS => ?_) ?_
  rotate_left
  (go_simp
   rfl)
  refine env_off HSZ H4.out H3.out (by first | rfl | go_simp) ?_
  refine env_off HSZ H5.out H3.out (by first | rfl | go_simp) ?_
  refine env_yes HSZ H6.out ?_ (fun w' hS => ?_) ?_
  rotate_left
  (go_simp
   rfl)
  refine env_yes HSZ H7.out ?_ (fun w' hS => ?_) ?_
  rotate_left
  (go_simp
   rfl)
  refine env_off HSZ H8.out H7.out (by first | rfl | go_simp) ?_
  refine env_off HSZ H9.out H7.out (by first | rfl | go_simp) ?_
  refine env_off HSZ H10.out H7.out (by first | rfl | go_simp) ?_
  refine env_yes HSZ H11.out ?_ (fun w' hS => ?_) ?_
  rotate_left
  (go_simp
   rfl)
  refine env_yes HSZ H12.out ?_ (fun w' hS => ?_) ?_
  rotate_left
  (go_simp
   rfl)
  refine env_off HSZ H13.out H12.out (by first | rfl | go_simp) ?_
  refine env_off HSZ H14.out H12.out (by first | rfl | go_simp) ?_
  refine env_off HSZ H15.out H12.out (by first | rfl | go_simp) ?_
  refine env_yes HSZ H16.out ?_ (fun w' hS => ?_) ?_
  rotate_left
  (go_simp
   rfl)
  refine env_yes HSZ H17.out ?_ (fun w' hS => ?_) ?_
  rotate_left
  (go_simp
   rfl)
  refine env_off HSZ H18.out H17.out (by first | rfl | go_simp) ?_
  refine env_off HSZ H19.out H17.out (by first | rfl | go_simp) ?_
  refine env_off HSZ H20.out H17.out (by first | rfl | go_simp) ?_
  refine env_off HSZ H21.out H17.out (by first | rfl | go_simp) ?_
  refine env_off HSZ H22.out H17.out (by first | rfl | go_simp) ?_
  refine env_yes HSZ H23.out ?_ (fun w' hS => ?_) ?_
  rotate_left
  (go_simp
   rfl)
  refine env_yes HSZ H24.out ?_ (fun w' hS => ?_) ?_
  rotate_left
  (go_simp
   rfl)
  refine env_end ?_
  have hfr := HFR.out
  clear HFR HSZ H0 H1 H2 H3 H4 H5 H6 H7 H8 H9 H10 H11 H12 H13 H14 H15 H16 H17 H18 H19 H20 H21 H22 H23 H24 x_2
  subst hfr
  simp only [putAll, Act.put, List.setIfInBounds_toArray, List.set_cons_succ, List.set_cons_zero]
  have K2n : Aside (Blk w4.drew w.heap.size _ _) := ⟨K2.out⟩
  have K4n : Aside (Blk w4.drew (w.heap.size + 1) _ _) := ⟨K4.out⟩
  have BLn := Aside.mk BL.out.drew
  clear u0 u1 u2 u3 u4 u5 u6 u7 f0 lx K2 K4 BL
  generalize w4.drew = w5 at K2n K4n BLn ⊢
  have K2 := K2n
  have K4 := K4n
  have BL := BLn
  clear K2n K4n BLn
  have u0 := K2.out.cell 0
  have u1 := K2.out.cell 1
  have u2 := K2.out.cell 2
  have u3 := K2.out.cell 3
  have u4 := K2.out.cell 4
  have u5 := K2.out.cell 5
  have u6 := K2.out.cell 6
  have u7 := K2.out.cell 7
  simp only [List.getElem?_cons_zero, List.getElem?_cons_succ] at u0 u1 u2 u3 u4 u5 u6 u7
  have f0 := K2.out.free 0
  have lx : w.heap.size < w5.heap.size := K2.out.lt
  go_wp2_with fail
  refine region_env [(0, true), (1, true), (2, true), (3, true), (4, true), (5, true), (6, true), (7, true), (8, true), (9, true), (10, true), (11, true), (12, true), (13, true), (14, true), (15, true), (16, true), (17, true), (18, true), (19, true), (20, true), (21, true), (22, true), (23, true)] (fun w' => Below w5.heap.size w5 w') 220 rfl (by kernel_rfl) (by kernel_rfl) (fun _ _ d _ _ h => by cases d <;> exact h) ((Below.refl _ _).drew) (fun ops fr HFR HSZ hl => ?_)
  have hl_0 := ops_start hl
  clear hl
  obtain ⟨H0, hl_1⟩ := ops_next 0 1 rfl hl_0
  clear hl_0
  obtain ⟨H1, hl_2⟩ := ops_next 1 2 rfl hl_1
  clear hl_1
  obtain ⟨H2, hl_3⟩ := ops_next 2 3 rfl hl_2
  clear hl_2
  obtain ⟨H3, hl_4⟩ := ops_next 3 4 rfl hl_3
  clear hl_3
  obtain ⟨H4, hl_5⟩ := ops_next 4 5 rfl hl_4
  clear hl_4
  obtain ⟨H5, hl_6⟩ := ops_next 5 6 rfl hl_5
  clear hl_5
  obtain ⟨H6, hl_7⟩ := ops_next 6 7 rfl hl_6
  clear hl_6
  obtain ⟨H7, hl_8⟩ := ops_next 7 8 rfl hl_7
  clear hl_7
  obtain ⟨H8, hl_9⟩ := ops_next 8 9 rfl hl_8
  clear hl_8
  obtain ⟨H9, hl_10⟩ := ops_next 9 10 rfl hl_9
  clear hl_9
  obtain ⟨H10, hl_11⟩ := ops_next 10 11 rfl hl_10
  clear hl_10
  obtain ⟨H11, hl_12⟩ := ops_next 11 12 rfl hl_11
  clear hl_11
  obtain ⟨H12, hl_13⟩ := ops_next 12 13 rfl hl_12
  clear hl_12
  obtain ⟨H13, hl_14⟩ := ops_next 13 14 rfl hl_13
  clear hl_13
  obtain ⟨H14, hl_15⟩ := ops_next 14 15 rfl hl_14
  clear hl_14
  obtain ⟨H15, hl_16⟩ := ops_next 15 16 rfl hl_15
  clear hl_15
  obtain ⟨H16, hl_17⟩ := ops_next 16 17 rfl hl_16
  clear hl_16
  obtain ⟨H17, hl_18⟩ := ops_next 17 18 rfl hl_17
  clear hl_17
  obtain ⟨H18, hl_19⟩ := ops_next 18 19 rfl hl_18
  clear hl_18
  obtain ⟨H19, hl_20⟩ := ops_next 19 20 rfl hl_19
  clear hl_19
  obtain ⟨H20, hl_21⟩ := ops_next 20 21 rfl hl_20
  clear hl_20
  obtain ⟨H21, hl_22⟩ := ops_next 21 22 rfl hl_21
  clear hl_21
  obtain ⟨H22, hl_23⟩ := ops_next 22 23 rfl hl_22
  clear hl_22
  obtain ⟨H23, hl_24⟩ := ops_next 23 24 rfl hl_23
  clear hl_23
  clear hl_24
  have x_2 : ext fr 2 = _ := congrArg (fun a => Act.eval a (.tmp 2)) HFR.out
  conv at x_2 => rhs; simp only [Act.eval, Array.getD_eq_getD_getElem?, List.getElem?_toArray, List.getElem?_cons_succ, List.getElem?_cons_zero, Option.getD_some]
  refine env_yes HSZ H0.out ?_ (fun w' hS => ?_) ?_
  rotate_left
  (go_simp
   rfl)
  refine env_yes HSZ H1.out ?_ (fun w' hS => ?_) ?_
  rotate_left
  (have h := (hS.cell (p := ⟨w.heap.size, 0, none⟩) lx).trans u0
   go_simp
   rfl)
  refine env_yes HSZ H2.out ?_ (fun w' hS => ?_) ?_
  rotate_left
  (go_simp
   rfl)
  refine env_yes HSZ H3.out ?_ (fun w' hS => ?_) ?_
  rotate_left
  (go_simp
   rfl)
  refine env_off HSZ H4.out H3.out (by first | rfl | go_simp) ?_
  refine env_off HSZ H5.out H3.out (by first | rfl | go_simp) ?_
  refine env_yes HSZ H6.out ?_ (fun w' hS => ?_) ?_
  rotate_left
  (go_simp
   rfl)
  refine env_yes HSZ H7.out ?_ (fun w' hS => ?_) ?_
  rotate_left
  (go_simp
   rfl)
  refine env_off HSZ H8.out H7.out (by first | rfl | go_simp) ?_
  refine env_off HSZ H9.out H7.out (by first | rfl | go_simp) ?_
  refine env_off HSZ H10.out H7.out (by first | rfl | go_simp) ?_
  refine env_yes HSZ H11.out ?_ (fun w' hS => ?_) ?_
  rotate_left
  (go_simp
   rfl)
  refine env_yes HSZ H12.out ?_ (fun w' hS => ?_) ?_
  rotate_left
  (go_simp
   rfl)
  refine env_off HSZ H13.out H12.out (by first | rfl | go_simp) ?_
  refine env_off HSZ H14.out H12.out (by first | rfl | go_simp) ?_
  refine env_off HSZ H15.out H12.out (by first | rfl | go_simp) ?_
  refine env_off HSZ H16.out H12.out (by first | rfl | go_simp) ?_
  refine env_off HSZ H17.out H12.out (by first | rfl | go_simp) ?_
  refine env_off HSZ H18.out H12.out (by first | rfl | go_simp) ?_
  refine env_off HSZ H19.out H12.out (by first | rfl | go_simp) ?_
  refine env_off HSZ H20.out H12.out (by first | rfl | go_simp) ?_
  refine env_off HSZ H21.out H12.out (by first | rfl | go_simp) ?_
  refine env_yes HSZ H22.out ?_ (fun w' hS => ?_) ?_
  rotate_left
  (go_simp
   rfl)
  refine env_yes HSZ H23.out ?_ (fun w' hS => ?_) ?_
  rotate_left
  (go_simp
   rfl)
  refine env_end ?_
  have hfr := HFR.out
  clear HFR HSZ H0 H1 H2 H3 H4 H5 H6 H7 H8 H9 H10 H11 H12 H13 H14 H15 H16 H17 H18 H19 H20 H21 H22 H23 x_2
  subst hfr
  simp only [putAll, Act.put, List.setIfInBounds_toArray, List.set_cons_succ, List.set_cons_zero]
  have K2n : Aside (Blk w5.drew w.heap.size _ _) := ⟨K2.out⟩
  have K4n : Aside (Blk w5.drew (w.heap.size + 1) _ _) := ⟨K4.out⟩
  have BLn := Aside.mk BL.out.drew
  clear u0 u1 u2 u3 u4 u5 u6 u7 f0 lx K2 K4 BL
  generalize w5.drew = w6 at K2n K4n BLn ⊢
  have K2 := K2n
  have K4 := K4n
  have BL := BLn
  clear K2n K4n BLn
  have u0 := K2.out.cell 0
  have u1 := K2.out.cell 1
  have u2 := K2.out.cell 2
  have u3 := K2.out.cell 3
  have u4 := K2.out.cell 4
  have u5 := K2.out.cell 5
  have u6 := K2.out.cell 6
  have u7 := K2.out.cell 7
  simp only [List.getElem?_cons_zero, List.getElem?_cons_succ] at u0 u1 u2 u3 u4 u5 u6 u7
  have f0 := K2.out.free 0
  have lx : w.heap.size < w6.heap.size := K2.out.lt
  go_wp2_with fail
  refine region_env [(0, true), (1, true), (2, true), (3, true), (4, true), (5, true), (6, true), (7, true), (8, true), (9, true), (10, true), (11, true), (12, true), (13, true), (14, true), (15, true), (16, true), (17, true), (18, true), (19, true), (20, true), (21, true), (22, true), (23, true)] (fun w' => Below w6.heap.size w6 w') 220 rfl (by kernel_rfl) (by kernel_rfl) (fun _ _ d _ _ h => by cases d <;> exact h) ((Below.refl _ _).drew) (fun ops fr HFR HSZ hl => ?_)
  have hl_0 := ops_start hl
  clear hl
  obtain ⟨H0, hl_1⟩ := ops_next 0 1 rfl hl_0
  clear hl_0
  obtain ⟨H1, hl_2⟩ := ops_next 1 2 rfl hl_1
  clear hl_1
  obtain ⟨H2, hl_3⟩ := ops_next 2 3 rfl hl_2
  clear hl_2
  obtain ⟨H3, hl_4⟩ := ops_next 3 4 rfl hl_3
  clear hl_3
  obtain ⟨H4, hl_5⟩ := ops_next 4 5 rfl hl_4
  clear hl_4
  obtain ⟨H5, hl_6⟩ := ops_next 5 6 rfl hl_5
  clear hl_5
  obtain ⟨H6, hl_7⟩ := ops_next 6 7 rfl hl_6
  clear hl_6
  obtain ⟨H7, hl_8⟩ := ops_next 7 8 rfl hl_7
  clear hl_7
  obtain ⟨H8, hl_9⟩ := ops_next 8 9 rfl hl_8
  clear hl_8
  obtain ⟨H9, hl_10⟩ := ops_next 9 10 rfl hl_9
  clear hl_9
  obtain ⟨H10, hl_11⟩ := ops_next 10 11 rfl hl_10
  clear hl_10
  obtain ⟨H11, hl_12⟩ := ops_next 11 12 rfl hl_11
  clear hl_11
  obtain ⟨H12, hl_13⟩ := ops_next 12 13 rfl hl_12
  clear hl_12
  obtain ⟨H13, hl_14⟩ := ops_next 13 14 rfl hl_13
  clear hl_13
  obtain ⟨H14, hl_15⟩ := ops_next 14 15 rfl hl_14
  clear hl_14
  obtain ⟨H15, hl_16⟩ := ops_next 15 16 rfl hl_15
  clear hl_15
  obtain ⟨H16, hl_17⟩ := ops_next 16 17 rfl hl_16
  clear hl_16
  obtain ⟨H17, hl_18⟩ := ops_next 17 18 rfl hl_17
  clear hl_17
  obtain ⟨H18, hl_19⟩ := ops_next 18 19 rfl hl_18
  clear hl_18
  obtain ⟨H19, hl_20⟩ := ops_next 19 20 rfl hl_19
  clear hl_19
  obtain ⟨H20, hl_21⟩ := ops_next 20 21 rfl hl_20
  clear hl_20
  obtain ⟨H21, hl_22⟩ := ops_next 21 22 rfl hl_21
  clear hl_21
  obtain ⟨H22, hl_23⟩ := ops_next 22 23 rfl hl_22
  clear hl_22
  obtain ⟨H23, hl_24⟩ := ops_next 23 24 rfl hl_23
  clear hl_23
  clear hl_24
  have x_2 : ext fr 2 = _ := congrArg (fun a => Act.eval a (.tmp 2)) HFR.out
  conv at x_2 => rhs; simp only [Act.eval, Array.getD_eq_getD_getElem?, List.getElem?_toArray, List.getElem?_cons_succ, List.getElem?_cons_zero, Option.getD_some]
  refine env_yes HSZ H0.out ?_ (fun w' hS => ?_) ?_
  rotate_left
  (go_simp
   rfl)
  refine env_yes HSZ H1.out ?_ (fun w' hS => ?_) ?_
  rotate_left
  (have h := (hS.cell (p := ⟨w.heap.size, 0, none⟩) lx).trans u0
   go_simp
   rfl)
  refine env_yes HSZ H2.out ?_ (fun w' hS => ?_) ?_
  rotate_left
  (go_simp
   rfl)
  refine env_yes HSZ H3.out ?_ (fun w' hS => ?_) ?_
  rotate_left
  (go_simp
   rfl)
  refine env_off HSZ H4.out H3.out (by first | rfl | go_simp) ?_
  refine env_off HSZ H5.out H3.out (by first | rfl | go_simp) ?_
  refine env_yes HSZ H6.out ?_ (fun w' hS => ?_) ?_
  rotate_left
  (go_simp
   rfl)
  refine env_yes HSZ H7.out ?_ (fun w' hS => ?_) ?_
  rotate_left
  (go_simp
   rfl)
  refine env_off HSZ H8.out H7.out (by first | rfl | go_simp) ?_
  refine env_off HSZ H9.out H7.out (by first | rfl | go_simp) ?_
  refine env_off HSZ H10.out H7.out (by first | rfl | go_simp) ?_
  refine env_yes HSZ H11.out ?_ (fun w' hS => ?_) ?_
  rotate_left
  (go_simp
   rfl)
  refine env_yes HSZ H12.out ?_ (fun w' hS => ?_) ?_
  rotate_left
  (go_simp
   rfl)
  refine env_off HSZ H13.out H12.out (by first | rfl | go_simp) ?_
  refine env_off HSZ H14.out H12.out (by first | rfl | go_simp) ?_
  refine env_off HSZ H15.out H12.out (by first | rfl | go_simp) ?_
  refine env_off HSZ H16.out H12.out (by first | rfl | go_simp) ?_
  refine env_off HSZ H17.out H12.out (by first | rfl | go_simp) ?_
  refine env_off HSZ H18.out H12.out (by first | rfl | go_simp) ?_
  refine env_off HSZ H19.out H12.out (by first | rfl | go_simp) ?_
  refine env_off HSZ H20.out H12.out (by first | rfl | go_simp) ?_
  refine env_off HSZ H21.out H12.out (by first | rfl | go_simp) ?_
  refine env_yes HSZ H22.out ?_ (fun w' hS => ?_) ?_
  rotate_left
  (go_simp
   rfl)
  refine env_yes HSZ H23.out ?_ (fun w' hS => ?_) ?_
  rotate_left
  (go_simp
   rfl)
  refine env_end ?_
  have hfr := HFR.out
  clear HFR HSZ H0 H1 H2 H3 H4 H5 H6 H7 H8 H9 H10 H11 H12 H13 H14 H15 H16 H17 H18 H19 H20 H21 H22 H23 x_2
  subst hfr
  simp only [putAll, Act.put, List.setIfInBounds_toArray, List.set_cons_succ, List.set_cons_zero]
  have K2n : Aside (Blk w6.drew w.heap.size _ _) := ⟨K2.out⟩
  have K4n : Aside (Blk w6.drew (w.heap.size + 1) _ _) := ⟨K4.out⟩
  have BLn := Aside.mk BL.out.drew
  clear u0 u1 u2 u3 u4 u5 u6 u7 f0 lx K2 K4 BL
  generalize w6.drew = w7 at K2n K4n BLn ⊢
  have K2 := K2n
  have K4 := K4n
  have BL := BLn
  clear K2n K4n BLn
  have u0 := K2.out.cell 0
  have u1 := K2.out.cell 1
  have u2 := K2.out.cell 2
  have u3 := K2.out.cell 3
  have u4 := K2.out.cell 4
  have u5 := K2.out.cell 5
  have u6 := K2.out.cell 6
  have u7 := K2.out.cell 7
  simp only [List.getElem?_cons_zero, List.getElem?_cons_succ] at u0 u1 u2 u3 u4 u5 u6 u7
  have f0 := K2.out.free 0
  have lx : w.heap.size < w7.heap.size := K2.out.lt
  have K2s : Aside (Blk (w7.setCell ⟨w.heap.size, 0, none⟩ (.int .i64 6)) w.heap.size 27 [.int .i64 6, .string name, .string cookie, .int .i64 flags, .int .i64 mine, .string calls, .string peer, .int .i64 both]) := ⟨K2.out.set 0 _⟩
  have K4s : Aside (Blk (w7.setCell ⟨w.heap.size, 0, none⟩ (.int .i64 6)) (w.heap.size + 1) 27 [.int .i64 0, .string ⟨#[]⟩, .string ⟨#[]⟩, .int .i64 0, .int .i64 0, .string ⟨#[]⟩, .string ⟨#[]⟩, .int .i64 0]) := ⟨K4.out.far (show w.heap.size + 1 ≠ w.heap.size by omega) _⟩
  have BLs : Aside (Below w.heap.size w (w7.setCell ⟨w.heap.size, 0, none⟩ (.int .i64 6))) := ⟨BL.out.setCell (Nat.le_refl _) _⟩
  have v0 := K2s.out.cell 0
  have v1 := K2s.out.cell 1
  have v2 := K2s.out.cell 2
  have v3 := K2s.out.cell 3
  have v4 := K2s.out.cell 4
  have v5 := K2s.out.cell 5
  have v6 := K2s.out.cell 6
  have v7 := K2s.out.cell 7
  simp only [List.getElem?_cons_zero, List.getElem?_cons_succ] at v0 v1 v2 v3 v4 v5 v6 v7
  go_wp2_with (refine wpList_store_blk rfl 27 _ _ rfl (w.heap.size + 1) [.int .i64 6, .string name, .string cookie, .int .i64 flags, .int .i64 mine, .string calls, .string peer, .int .i64 both] rfl rfl 27 [.int .i64 0, .string ⟨#[]⟩, .string ⟨#[]⟩, .int .i64 0, .int .i64 0, .string ⟨#[]⟩, .string ⟨#[]⟩, .int .i64 0] (K4s.out) (by kernel_rfl) rfl rfl ?_; intro w9 k9 hg9; have K9 := Aside.mk k9; have B9 := Aside.mk (below_grown (BLs.out) hg9 (by omega)); clear k9 hg9)
  refine bodyPost_ret (res_ctt rfl _ _ (w.heap.size + 1) 27 [.int .i64 6, .string name, .string cookie, .int .i64 flags, .int .i64 mine, .string calls, .string peer, .int .i64 both] _ rfl K9.out Tryd.underlying27 rfl (by kernel_rfl)) rfl ⟨.slice (some ⟨w.heap.size + 2, 0, none⟩) 0 0, by rw [E.out]; rfl, by rw [E.out]; exact strs_nil _ _ _, B9.out⟩
set_option maxRecDepth 100000 in
set_option maxHeartbeats 8000000 in
theorem sStep0e (name cookie : ByteArray) (flags mine : Int) (calls peer : ByteArray) (both : Int) (data : ByteArray) (w : World) (hn : name.size ≤ 1048576) (hc : cookie.size ≤ 100) (hf0 : 0 ≤ flags) (hf1 : flags ≤ 65535) (hm0 : 0 ≤ mine) (hm1 : mine ≤ 4294967295) (hca : calls.size ≤ 1048576) (hpe : peer.size ≤ 1048576) (hd : data.size ≤ 1048576) (hb : handB 0 name cookie flags mine calls peer both = true) (h0 : 0 < data.size) (hcb : ((data[0].toNat : Int) == 78) = true) (h3 : 3 < data.size) (hnm : nameB (data.extract 3 data.size) = true) (e1 : ((data.extract 3 data.size).toList == name.toList) = true) :
    Calls Tryd.prog 13 #[.agg #[.int .i64 0, .string name, .string cookie, .int .i64 flags, .int .i64 mine, .string calls, .string peer, .int .i64 both], .string data] w (StepOK w (hearsR 0 name cookie flags mine calls peer both data) 0) := by
  have E : Aside (hearsR 0 name cookie flags mine calls peer both data = ((6, name, cookie, flags, mine, calls, peer, both), [⟨#[115, 110, 111, 116, 95, 97, 108, 108, 111, 119, 101, 100]⟩])) := ⟨by rw [sStep0_eq, hello, head_at 78 h0, show (((78 : UInt8).toNat : Nat) : Int) = 78 from rfl, hcb, decide_eq_true h3, hnm, show eqS (data.extract 3 data.size) name = true from e1]; rfl⟩
  generalize hearsR 0 name cookie flags mine calls peer both data = r at E ⊢
  have h0i : (0 : Int) < data.size := by omega
  have h3i : (3 : Int) < data.size := by omega
  have h3j : (3 : Int) ≤ data.size := by omega
  have HNM := Aside.mk hnm
  clear hnm
  have HB := Aside.mk hb
  clear hb
  go_enter Tryd.func13, Tryd.ntmps13
  go_wp2_with fail
  obtain ⟨w3, hw3⟩ : ∃ x, x = ((w.alloc (.cells #[.int .i64 0, .string name, .string cookie, .int .i64 flags, .int .i64 mine, .string calls, .string peer, .int .i64 both] 27)).alloc (.cells #[.int .i64 0, .string ⟨#[]⟩, .string ⟨#[]⟩, .int .i64 0, .int .i64 0, .string ⟨#[]⟩, .string ⟨#[]⟩, .int .i64 0] 27)).alloc (.cells #[] 9) := ⟨_, rfl⟩
  rw [← hw3]
  have K2 : Aside (Blk w3 w.heap.size 27 [.int .i64 0, .string name, .string cookie, .int .i64 flags, .int .i64 mine, .string calls, .string peer, .int .i64 both]) := ⟨by rw [hw3]; exact ((Blk.new w 27 [.int .i64 0, .string name, .string cookie, .int .i64 flags, .int .i64 mine, .string calls, .string peer, .int .i64 both]).alloc _).alloc _⟩
  have K4 : Aside (Blk w3 (w.heap.size + 1) 27 [.int .i64 0, .string ⟨#[]⟩, .string ⟨#[]⟩, .int .i64 0, .int .i64 0, .string ⟨#[]⟩, .string ⟨#[]⟩, .int .i64 0]) := ⟨by rw [hw3]; exact (Blk.made (w.alloc _) 27 [.int .i64 0, .string ⟨#[]⟩, .string ⟨#[]⟩, .int .i64 0, .int .i64 0, .string ⟨#[]⟩, .string ⟨#[]⟩, .int .i64 0] (by simp)).alloc _⟩
  have BL : Aside (Below w.heap.size w w3) := ⟨by rw [hw3]; go_grown⟩
  clear hw3
  refine (l13Hand 0 name cookie flags mine calls peer both w3 (by omega) (by omega) (by omega) (by omega)).mono ?_
  rintro e w4 ⟨rfl, hb⟩
  rw [HB.out]
  have K2n := Aside.mk (K2.out.below hb)
  have K4n := Aside.mk (K4.out.below hb)
  have BLn := Aside.mk (below_later BL.out hb)
  clear K2 K4 BL
  have K2 := K2n
  have K4 := K4n
  have BL := BLn
  clear BLn K2n K4n
  clear hb HB
  have u0 := K2.out.cell 0
  have u1 := K2.out.cell 1
  have u2 := K2.out.cell 2
  have u3 := K2.out.cell 3
  have u4 := K2.out.cell 4
  have u5 := K2.out.cell 5
  have u6 := K2.out.cell 6
  have u7 := K2.out.cell 7
  simp only [List.getElem?_cons_zero, List.getElem?_cons_succ] at u0 u1 u2 u3 u4 u5 u6 u7
  have f0 := K2.out.free 0
  have lx : w.heap.size < w4.heap.size := K2.out.lt
  go_wp2_with fail
  refine (l01Name (data.extract 3 data.size) _ (by rw [ByteArray.size_extract]; omega)).mono ?_
  rintro e w' ⟨rfl, rfl⟩
  rw [HNM.out]
  have lr : w.heap.size + 1 < w4.heap.size := K4.out.lt
  have K2s : Aside (Blk ((w4.setCell ⟨w.heap.size, 0, none⟩ (.int .i64 6)).alloc (.cells #[.string ⟨#[115, 110, 111, 116, 95, 97, 108, 108, 111, 119, 101, 100]⟩] 9)) w.heap.size 27 [.int .i64 6, .string name, .string cookie, .int .i64 flags, .int .i64 mine, .string calls, .string peer, .int .i64 both]) := ⟨(K2.out.set 0 _).alloc _⟩
  have K4s : Aside (Blk ((w4.setCell ⟨w.heap.size, 0, none⟩ (.int .i64 6)).alloc (.cells #[.string ⟨#[115, 110, 111, 116, 95, 97, 108, 108, 111, 119, 101, 100]⟩] 9)) (w.heap.size + 1) 27 [.int .i64 0, .string ⟨#[]⟩, .string ⟨#[]⟩, .int .i64 0, .int .i64 0, .string ⟨#[]⟩, .string ⟨#[]⟩, .int .i64 0]) := ⟨(K4.out.far (show w.heap.size + 1 ≠ w.heap.size by omega) _).alloc _⟩
  have KSs : Aside (Blk ((w4.setCell ⟨w.heap.size, 0, none⟩ (.int .i64 6)).alloc (.cells #[.string ⟨#[115, 110, 111, 116, 95, 97, 108, 108, 111, 119, 101, 100]⟩] 9)) w4.heap.size 9 [.string ⟨#[115, 110, 111, 116, 95, 97, 108, 108, 111, 119, 101, 100]⟩]) := ⟨by have h := Blk.new (w4.setCell ⟨w.heap.size, 0, none⟩ (.int .i64 6)) 9 [.string ⟨#[115, 110, 111, 116, 95, 97, 108, 108, 111, 119, 101, 100]⟩]; rw [show (w4.setCell ⟨w.heap.size, 0, none⟩ (.int .i64 6)).heap.size = w4.heap.size by simp] at h; exact h⟩
  have BLs : Aside (Below w.heap.size w ((w4.setCell ⟨w.heap.size, 0, none⟩ (.int .i64 6)).alloc (.cells #[.string ⟨#[115, 110, 111, 116, 95, 97, 108, 108, 111, 119, 101, 100]⟩] 9))) := ⟨(BL.out.setCell (Nat.le_refl _) _).alloc (by rw [show (w4.setCell ⟨w.heap.size, 0, none⟩ (.int .i64 6)).heap.size = w4.heap.size by simp]; omega) _⟩
  have v0 := K2s.out.cell 0
  have v1 := K2s.out.cell 1
  have v2 := K2s.out.cell 2
  have v3 := K2s.out.cell 3
  have v4 := K2s.out.cell 4
  have v5 := K2s.out.cell 5
  have v6 := K2s.out.cell 6
  have v7 := K2s.out.cell 7
  simp only [List.getElem?_cons_zero, List.getElem?_cons_succ] at v0 v1 v2 v3 v4 v5 v6 v7
  go_wp2_with (refine wpList_store_blk rfl 27 _ _ rfl (w.heap.size + 1) [.int .i64 6, .string name, .string cookie, .int .i64 flags, .int .i64 mine, .string calls, .string peer, .int .i64 both] rfl rfl 27 [.int .i64 0, .string ⟨#[]⟩, .string ⟨#[]⟩, .int .i64 0, .int .i64 0, .string ⟨#[]⟩, .string ⟨#[]⟩, .int .i64 0] (K4s.out) (by kernel_rfl) rfl rfl ?_; intro w9 k9 hg9; have K9 := Aside.mk k9; have B9 := Aside.mk (below_grown (BLs.out) hg9 (by omega)); have S9 := Aside.mk ((KSs.out).grown hg9 (by intro e; injection e with e; omega)); clear k9 hg9)
  refine bodyPost_ret (res_ctt rfl _ _ (w.heap.size + 1) 27 [.int .i64 6, .string name, .string cookie, .int .i64 flags, .int .i64 mine, .string calls, .string peer, .int .i64 both] _ rfl K9.out Tryd.underlying27 rfl (by kernel_rfl)) rfl ⟨_, by rw [E.out]; rfl, by rw [E.out]; exact strs_row [⟨#[115, 110, 111, 116, 95, 97, 108, 108, 111, 119, 101, 100]⟩] S9.out ⟨by omega, S9.out.lt⟩, B9.out⟩
set_option maxRecDepth 100000 in
set_option maxHeartbeats 8000000 in
theorem sStep0f (name cookie : ByteArray) (flags mine : Int) (calls peer : ByteArray) (both : Int) (data : ByteArray) (w : World) (hn : name.size ≤ 1048576) (hc : cookie.size ≤ 100) (hf0 : 0 ≤ flags) (hf1 : flags ≤ 65535) (hm0 : 0 ≤ mine) (hm1 : mine ≤ 4294967295) (hca : calls.size ≤ 1048576) (hpe : peer.size ≤ 1048576) (hd : data.size ≤ 1048576) (hb : handB 0 name cookie flags mine calls peer both = true) (h0 : 0 < data.size) (hcb : ((data[0].toNat : Int) == 78) = true) (h3 : 3 < data.size) (hnm : nameB (data.extract 3 data.size) = true) (e1 : ((data.extract 3 data.size).toList == name.toList) = false) (e2 : ((data.extract 3 data.size).toList == calls.toList) = true) (e3 : Op.bytesLess name.toList (data.extract 3 data.size).toList = false) (e1x : (name.toList == (data.extract 3 data.size).toList) = false) :
    Calls Tryd.prog 13 #[.agg #[.int .i64 0, .string name, .string cookie, .int .i64 flags, .int .i64 mine, .string calls, .string peer, .int .i64 both], .string data] w (StepOK w (hearsR 0 name cookie flags mine calls peer both data) 0) := by
  have E : Aside (hearsR 0 name cookie flags mine calls peer both data = ((6, name, cookie, flags, mine, calls, peer, both), [⟨#[115, 110, 111, 107]⟩])) := ⟨by rw [sStep0_eq, hello, head_at 78 h0, show (((78 : UInt8).toNat : Nat) : Int) = 78 from rfl, hcb, decide_eq_true h3, hnm, show eqS (data.extract 3 data.size) name = false from e1, show eqS (data.extract 3 data.size) calls = true from e2, show gtS name (data.extract 3 data.size) = true by unfold gtS; rw [e3, e1x]; rfl]; rfl⟩
  generalize hearsR 0 name cookie flags mine calls peer both data = r at E ⊢
  have h0i : (0 : Int) < data.size := by omega
  have h3i : (3 : Int) < data.size := by omega
  have h3j : (3 : Int) ≤ data.size := by omega
  have HNM := Aside.mk hnm
  clear hnm
  have HB := Aside.mk hb
  clear hb
  go_enter Tryd.func13, Tryd.ntmps13
  go_wp2_with fail
  obtain ⟨w3, hw3⟩ : ∃ x, x = ((w.alloc (.cells #[.int .i64 0, .string name, .string cookie, .int .i64 flags, .int .i64 mine, .string calls, .string peer, .int .i64 both] 27)).alloc (.cells #[.int .i64 0, .string ⟨#[]⟩, .string ⟨#[]⟩, .int .i64 0, .int .i64 0, .string ⟨#[]⟩, .string ⟨#[]⟩, .int .i64 0] 27)).alloc (.cells #[] 9) := ⟨_, rfl⟩
  rw [← hw3]
  have K2 : Aside (Blk w3 w.heap.size 27 [.int .i64 0, .string name, .string cookie, .int .i64 flags, .int .i64 mine, .string calls, .string peer, .int .i64 both]) := ⟨by rw [hw3]; exact ((Blk.new w 27 [.int .i64 0, .string name, .string cookie, .int .i64 flags, .int .i64 mine, .string calls, .string peer, .int .i64 both]).alloc _).alloc _⟩
  have K4 : Aside (Blk w3 (w.heap.size + 1) 27 [.int .i64 0, .string ⟨#[]⟩, .string ⟨#[]⟩, .int .i64 0, .int .i64 0, .string ⟨#[]⟩, .string ⟨#[]⟩, .int .i64 0]) := ⟨by rw [hw3]; exact (Blk.made (w.alloc _) 27 [.int .i64 0, .string ⟨#[]⟩, .string ⟨#[]⟩, .int .i64 0, .int .i64 0, .string ⟨#[]⟩, .string ⟨#[]⟩, .int .i64 0] (by simp)).alloc _⟩
  have BL : Aside (Below w.heap.size w w3) := ⟨by rw [hw3]; go_grown⟩
  clear hw3
  refine (l13Hand 0 name cookie flags mine calls peer both w3 (by omega) (by omega) (by omega) (by omega)).mono ?_
  rintro e w4 ⟨rfl, hb⟩
  rw [HB.out]
  have K2n := Aside.mk (K2.out.below hb)
  have K4n := Aside.mk (K4.out.below hb)
  have BLn := Aside.mk (below_later BL.out hb)
  clear K2 K4 BL
  have K2 := K2n
  have K4 := K4n
  have BL := BLn
  clear BLn K2n K4n
  clear hb HB
  have u0 := K2.out.cell 0
  have u1 := K2.out.cell 1
  have u2 := K2.out.cell 2
  have u3 := K2.out.cell 3
  have u4 := K2.out.cell 4
  have u5 := K2.out.cell 5
  have u6 := K2.out.cell 6
  have u7 := K2.out.cell 7
  simp only [List.getElem?_cons_zero, List.getElem?_cons_succ] at u0 u1 u2 u3 u4 u5 u6 u7
  have f0 := K2.out.free 0
  have lx : w.heap.size < w4.heap.size := K2.out.lt
  go_wp2_with fail
  refine (l01Name (data.extract 3 data.size) _ (by rw [ByteArray.size_extract]; omega)).mono ?_
  rintro e w' ⟨rfl, rfl⟩
  rw [HNM.out]
  have lr : w.heap.size + 1 < w4.heap.size := K4.out.lt
  have K2s : Aside (Blk ((w4.setCell ⟨w.heap.size, 0, none⟩ (.int .i64 6)).alloc (.cells #[.string ⟨#[115, 110, 111, 107]⟩] 9)) w.heap.size 27 [.int .i64 6, .string name, .string cookie, .int .i64 flags, .int .i64 mine, .string calls, .string peer, .int .i64 both]) := ⟨(K2.out.set 0 _).alloc _⟩
  have K4s : Aside (Blk ((w4.setCell ⟨w.heap.size, 0, none⟩ (.int .i64 6)).alloc (.cells #[.string ⟨#[115, 110, 111, 107]⟩] 9)) (w.heap.size + 1) 27 [.int .i64 0, .string ⟨#[]⟩, .string ⟨#[]⟩, .int .i64 0, .int .i64 0, .string ⟨#[]⟩, .string ⟨#[]⟩, .int .i64 0]) := ⟨(K4.out.far (show w.heap.size + 1 ≠ w.heap.size by omega) _).alloc _⟩
  have KSs : Aside (Blk ((w4.setCell ⟨w.heap.size, 0, none⟩ (.int .i64 6)).alloc (.cells #[.string ⟨#[115, 110, 111, 107]⟩] 9)) w4.heap.size 9 [.string ⟨#[115, 110, 111, 107]⟩]) := ⟨by have h := Blk.new (w4.setCell ⟨w.heap.size, 0, none⟩ (.int .i64 6)) 9 [.string ⟨#[115, 110, 111, 107]⟩]; rw [show (w4.setCell ⟨w.heap.size, 0, none⟩ (.int .i64 6)).heap.size = w4.heap.size by simp] at h; exact h⟩
  have BLs : Aside (Below w.heap.size w ((w4.setCell ⟨w.heap.size, 0, none⟩ (.int .i64 6)).alloc (.cells #[.string ⟨#[115, 110, 111, 107]⟩] 9))) := ⟨(BL.out.setCell (Nat.le_refl _) _).alloc (by rw [show (w4.setCell ⟨w.heap.size, 0, none⟩ (.int .i64 6)).heap.size = w4.heap.size by simp]; omega) _⟩
  have v0 := K2s.out.cell 0
  have v1 := K2s.out.cell 1
  have v2 := K2s.out.cell 2
  have v3 := K2s.out.cell 3
  have v4 := K2s.out.cell 4
  have v5 := K2s.out.cell 5
  have v6 := K2s.out.cell 6
  have v7 := K2s.out.cell 7
  simp only [List.getElem?_cons_zero, List.getElem?_cons_succ] at v0 v1 v2 v3 v4 v5 v6 v7
  go_wp2_with (refine wpList_store_blk rfl 27 _ _ rfl (w.heap.size + 1) [.int .i64 6, .string name, .string cookie, .int .i64 flags, .int .i64 mine, .string calls, .string peer, .int .i64 both] rfl rfl 27 [.int .i64 0, .string ⟨#[]⟩, .string ⟨#[]⟩, .int .i64 0, .int .i64 0, .string ⟨#[]⟩, .string ⟨#[]⟩, .int .i64 0] (K4s.out) (by kernel_rfl) rfl rfl ?_; intro w9 k9 hg9; have K9 := Aside.mk k9; have B9 := Aside.mk (below_grown (BLs.out) hg9 (by omega)); have S9 := Aside.mk ((KSs.out).grown hg9 (by intro e; injection e with e; omega)); clear k9 hg9)
  refine bodyPost_ret (res_ctt rfl _ _ (w.heap.size + 1) 27 [.int .i64 6, .string name, .string cookie, .int .i64 flags, .int .i64 mine, .string calls, .string peer, .int .i64 both] _ rfl K9.out Tryd.underlying27 rfl (by kernel_rfl)) rfl ⟨_, by rw [E.out]; rfl, by rw [E.out]; exact strs_row [⟨#[115, 110, 111, 107]⟩] S9.out ⟨by omega, S9.out.lt⟩, B9.out⟩
end Go.Proofs.YtlopbheahedofaaDoor.Fn
