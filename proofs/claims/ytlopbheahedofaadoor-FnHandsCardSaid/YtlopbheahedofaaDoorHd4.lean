/- Walk of the law FnHands. Conditions: a code that is handed in, and strconv's table as it is laid. -/
import Derived.Test.YtlopbheahedofaaDoorHdA
set_option linter.unusedVariables false
namespace Go.Proofs.YtlopbheahedofaaDoor.Fn
open Go Go.RowKit Go.Proofs.YtlopbheahedofaaDoor.Lib Go.Proofs.YtlopbheahedofaaDoor.Plan
attribute [local go_sem] look_tmp look_const look_func look_global lookT_nil lookT_hit lookT_miss evOf_const evOf_func evOf_global

set_option maxRecDepth 100000 in
set_option maxHeartbeats 2000000 in
theorem lpick (A : Option Addr) (n c : Nat) (w : World) (h : CodeIn w A n) (hn : n ≤ 1048576) (i m : Nat) (hi : i ≤ 100) (hm0 : 2 ≤ m) (hm1 : m ≤ 1000) :
    Calls Tryd.prog 9 #[.slice A n c, .int .i64 i, .int .i64 m] w fun e w' => ∃ r : Int, e = .returned (.int .i64 r) ∧ 0 ≤ r ∧ r ≤ (m : Int) - 1 ∧ Below w.heap.size w w' := by
  have hm2 : ¬ (m : Int) < 2 := by omega
  have hmz : ¬ (m : Int) = 0 := by omega
  have hmn : ¬ m = 0 := by omega
  by_cases h0 : n = 0
  · subst h0
    have g1 : 0 ≤ (i : Int) % (m : Int) := Int.emod_nonneg _ (by omega)
    have g2 := Int.emod_lt_of_pos (i : Int) (show 0 < (m : Int) by omega)
    go_enter Tryd.func9, Tryd.ntmps9
    go_wp2_with fail
    go_ret
    exact ⟨_, rfl, g1, by omega, Below.refl _ _⟩
  · have hq : i % n < n := Nat.mod_lt _ (by omega)
    obtain ⟨b, o, x, rfl, hb, hc, x0, x1⟩ := h (i % n) hq
    have hnz : ¬ (n : Int) = 0 := by omega
    have hnb : ((n : Int) == 0) = false := by simpa using hnz
    have e1 : (i : Int).tmod (n : Int) = ((i % n : Nat) : Int) := rfl
    have e2 : (i : Int).tdiv (n : Int) = ((i / n : Nat) : Int) := rfl
    have hd : i / n ≤ i := Nat.div_le_self _ _
    obtain ⟨k, hk⟩ : ∃ k, k = i % n := ⟨_, rfl⟩
    obtain ⟨d, hd2⟩ : ∃ k, k = i / n := ⟨_, rfl⟩
    rw [← hk] at hq hc e1
    rw [← hd2] at e2 hd
    have w0 : IntKind.i64.wrap (d : Int) = d := by rw [IntKind.wrap_i64]; omega
    have hki : (k : Int) < n := by omega
    have w1 : IntKind.i64.wrap x = x := by rw [IntKind.wrap_i64]; omega
    have w2 : IntKind.i64.wrap ((d : Int) * 37) = (d : Int) * 37 := by rw [IntKind.wrap_i64]; omega
    have w3 : IntKind.i64.wrap (x + (d : Int) * 37) = x + (d : Int) * 37 := by rw [IntKind.wrap_i64]; omega
    have hr := mod_small (r := x + (d : Int) * 37) (m := m) (q := (m : Int) - 1) (by omega) (by omega) (Int.le_refl _)
    have HR := Aside.mk hr
    clear hk hd2 hr
    go_enter Tryd.func9, Tryd.ntmps9
    go_wp2_with fail
    refine region_env [(0, true), (1, true), (2, true), (3, true), (4, true), (5, true), (6, true), (7, true), (8, true), (9, true), (10, true), (11, true), (12, true), (13, true), (14, true), (15, true), (16, true)] (fun w' => Below w.heap.size w w') 31 rfl (by kernel_rfl) (by kernel_rfl) (fun _ _ d _ _ h => by cases d <;> exact h) ((Below.refl _ _).drew) (fun ops fr HFR HSZ hl => ?_)
    have hl_0 := ops_start hl
    clear hl
    obtain ⟨H0, hl_1⟩ := ops_next 0 1 rfl hl_0
    clear hl_0
    obtain ⟨H1, hl_2⟩ := ops_next 1 2 rfl hl_1
    clear hl_1
    obtain ⟨H2, hl_3⟩ := ops_next 2 3 rfl hl_2
    clear hl_2
    obtain ⟨H3, hl_4⟩ := ops_next 3 4 rfl hl_3
    clear hl_3
    obtain ⟨H4, hl_5⟩ := ops_next 4 5 rfl hl_4
    clear hl_4
    obtain ⟨H5, hl_6⟩ := ops_next 5 6 rfl hl_5
    clear hl_5
    obtain ⟨H6, hl_7⟩ := ops_next 6 7 rfl hl_6
    clear hl_6
    obtain ⟨H7, hl_8⟩ := ops_next 7 8 rfl hl_7
    clear hl_7
    obtain ⟨H8, hl_9⟩ := ops_next 8 9 rfl hl_8
    clear hl_8
    obtain ⟨H9, hl_10⟩ := ops_next 9 10 rfl hl_9
    clear hl_9
    obtain ⟨H10, hl_11⟩ := ops_next 10 11 rfl hl_10
    clear hl_10
    obtain ⟨H11, hl_12⟩ := ops_next 11 12 rfl hl_11
    clear hl_11
    obtain ⟨H12, hl_13⟩ := ops_next 12 13 rfl hl_12
    clear hl_12
    obtain ⟨H13, hl_14⟩ := ops_next 13 14 rfl hl_13
    clear hl_13
    obtain ⟨H14, hl_15⟩ := ops_next 14 15 rfl hl_14
    clear hl_14
    obtain ⟨H15, hl_16⟩ := ops_next 15 16 rfl hl_15
    clear hl_15
    obtain ⟨H16, hl_17⟩ := ops_next 16 17 rfl hl_16
    clear hl_16
    clear hl_17
    have x_0 : ext fr 0 = _ := congrArg (fun a => Act.eval a (.tmp 0)) HFR.out
    conv at x_0 => rhs; simp only [Act.eval, Array.getD_eq_getD_getElem?, List.getElem?_toArray, List.getElem?_cons_succ, List.getElem?_cons_zero, Option.getD_some]
    have x_1 : ext fr 1 = _ := congrArg (fun a => Act.eval a (.tmp 1)) HFR.out
    conv at x_1 => rhs; simp only [Act.eval, Array.getD_eq_getD_getElem?, List.getElem?_toArray, List.getElem?_cons_succ, List.getElem?_cons_zero, Option.getD_some]
    have x_2 : ext fr 2 = _ := congrArg (fun a => Act.eval a (.tmp 2)) HFR.out
    conv at x_2 => rhs; simp only [Act.eval, Array.getD_eq_getD_getElem?, List.getElem?_toArray, List.getElem?_cons_succ, List.getElem?_cons_zero, Option.getD_some]
    refine env_yes HSZ H0.out ?_ (fun w' hS => ?_) ?_
    rotate_left
    (go_simp
     rfl)
    refine env_yes HSZ H1.out ?_ (fun w' hS => ?_) ?_
    rotate_left
    (go_simp
     rfl)
    refine env_yes HSZ H2.out ?_ (fun w' hS => ?_) ?_
    rotate_left
    (go_simp
     rfl)
    refine env_yes HSZ H3.out ?_ (fun w' hS => ?_) ?_
    rotate_left
    (go_simp
     rfl)
    refine env_yes HSZ H4.out ?_ (fun w' hS => ?_) ?_
    rotate_left
    (go_simp
     rfl)
    refine env_yes HSZ H5.out ?_ (fun w' hS => ?_) ?_
    rotate_left
    (go_simp
     rfl)
    refine env_yes HSZ H6.out ?_ (fun w' hS => ?_) ?_
    rotate_left
    (have h := (hS.cell (p := ⟨b, o + k, none⟩) hb).trans hc
     go_simp
     rfl)
    refine env_yes HSZ H7.out ?_ (fun w' hS => ?_) ?_
    rotate_left
    (go_simp
     rfl)
    refine env_yes HSZ H8.out ?_ (fun w' hS => ?_) ?_
    rotate_left
    (go_simp
     rfl)
    refine env_yes HSZ H9.out ?_ (fun w' hS => ?_) ?_
    rotate_left
    (go_simp
     rfl)
    refine env_yes HSZ H10.out ?_ (fun w' hS => ?_) ?_
    rotate_left
    (go_simp
     rfl)
    refine env_yes HSZ H11.out ?_ (fun w' hS => ?_) ?_
    rotate_left
    (go_simp
     rfl)
    refine env_yes HSZ H12.out ?_ (fun w' hS => ?_) ?_
    rotate_left
    (go_simp
     rfl)
    refine env_yes HSZ H13.out ?_ (fun w' hS => ?_) ?_
    rotate_left
    (go_simp
     rfl)
    refine env_yes HSZ H14.out ?_ (fun w' hS => ?_) ?_
    rotate_left
    (go_simp
     rfl)
    refine env_yes HSZ H15.out ?_ (fun w' hS => ?_) ?_
    rotate_left
    (go_simp
     rfl)
    refine env_yes HSZ H16.out ?_ (fun w' hS => ?_) ?_
    rotate_left
    (go_simp
     rfl)
    refine env_end ?_
    have hfr := HFR.out
    clear HFR HSZ H0 H1 H2 H3 H4 H5 H6 H7 H8 H9 H10 H11 H12 H13 H14 H15 H16 x_0 x_1 x_2
    subst hfr
    simp only [putAll, Act.put, List.setIfInBounds_toArray, List.set_cons_succ, List.set_cons_zero]
    go_wp2_with fail
    go_ret
    exact ⟨_, rfl, HR.out.1, HR.out.2, (Below.refl _ _).drew⟩
def keys3 : List Value := [.string ⟨#[107, 101, 121]⟩, .string ⟨#[]⟩, .string ⟨#[107, 101, 122]⟩]
theorem keys3_at (k : Nat) (hk : k < 3) : ∃ y : ByteArray, keys3[k]? = some (.string y) ∧ y.size ≤ 3 := by
  match k, hk with
  | 0, _ | 1, _ | 2, _ => exact ⟨_, rfl, by decide⟩
theorem CodeIn.later {w w2 : World} {A : Option Addr} {n : Nat} (h : CodeIn w A n) (hb : Below w.heap.size w w2) : CodeIn w2 A n := by
  intro j hj
  obtain ⟨b, o, x, e, h1, h2, h3⟩ := h j hj
  exact ⟨b, o, x, e, Nat.lt_of_lt_of_le h1 hb.size, (hb.cell (p := ⟨b, o + j, none⟩) h1).trans h2, h3⟩
/-- The two ends in memory: their blocks, and the two queues. -/
structure HSAt (w wr : World) (ga gb : Nat) (tb ta : Value) (s : HS) : Prop where
  bel : Below w.heap.size w wr
  ka : Blk wr ga 27 (cellsH s.a)
  kb : Blk wr gb 27 (cellsH s.b)
  qs : ∃ gB oB cB gA oA cA, tb = .slice (some ⟨gB, oB, none⟩) s.qb.length cB ∧ ta = .slice (some ⟨gA, oA, none⟩) s.qa.length cA ∧ QAt wr (gb + 1) gB oB cB s.qb ∧ QAt wr (gb + 1) gA oA cA s.qa ∧ gA ≠ gB
theorem cut_one {w : World} {base g o cap : Nat} {x : ByteArray} {l : List ByteArray} (h : QAt w base g o cap (x :: l)) (hc : cap = 1) : QAt w base g o 0 l := by
  obtain ⟨h0, cs, h1, h2, h3, h4⟩ := h.tail
  have hz : l = [] := List.eq_nil_of_length_eq_zero (by omega)
  subst hz
  exact ⟨h0, cs, h1, by simp, by omega, fun j hj => by simp at hj⟩
set_option maxRecDepth 100000 in
set_option maxHeartbeats 16000000 in
theorem FnHands (A : Option Addr) (n c : Nat) (w : World) (h : CodeIn w A n) (htab : Go.Lib.TabIs Tryd.prog w "internal/strconv.uint64pow10" .u64 Go.Lib.pow10Tab) :
    Calls Tryd.prog 3 #[.slice A n c] w fun e w' => e = .returned (.bool true) ∧ Below w.heap.size w w' := by
  by_cases hbig : (1048576 : Int) < (n : Int)
  · go_enter Tryd.func3, Tryd.ntmps3
    go_wp2_with fail
    refine (bigL A n c _).mono ?_
    rintro e w1 ⟨rfl, rfl⟩
    rw [decide_eq_true hbig]
    go_wp2_with fail
    go_ret
    exact ⟨rfl, Below.refl _ _⟩
  have HC := Aside.mk h
  have HT := Aside.mk htab
  have hn : n ≤ 1048576 := by omega
  clear h htab
  go_enter Tryd.func3, Tryd.ntmps3
  go_wp2_with fail
  refine (bigL A n c _).mono ?_
  rintro e w1 ⟨rfl, rfl⟩
  rw [decide_eq_false (show ¬ (1048576 : Int) < (n : Int) by omega)]
  clear hbig
  go_wp2_with fail
  refine (drawOpen A n c w HC.out hn).mono ?_
  rintro e w1 ⟨N, K, f, m, rfl, hN, hK, hf, hm, hb⟩
  have HB1 := Aside.mk hb
  clear hb
  go_wp2_with fail
  refine (iHandOpen N K f m w1 (by omega) (by omega)).mono ?_
  rintro e w2 ⟨rfl, hb⟩
  have HB2 := Aside.mk (below_later HB1.out hb)
  clear hb HB1
  cases hbb : baseB N K f m
  · have HV : Aside (openV N K f m = .tuple #[.agg #[.int .i64 0, .string ⟨#[]⟩, .string ⟨#[]⟩, .int .i64 0, .int .i64 0, .string ⟨#[]⟩, .string ⟨#[]⟩, .int .i64 0], .string ⟨#[]⟩, .int .i64 1]) := ⟨(if_neg (by rw [hbb]; simp)).trans rfl⟩
    rw [HV.out]
    go_wp2_with fail
    refine (sHandOpen N K f m _ (by omega) (by omega)).mono ?_
    rintro e w3 ⟨rfl, hb⟩
    have HB3 : Aside (Below w.heap.size w w3) := ⟨below_later (HB2.out.alloc HB2.out.size _) hb⟩
    clear hb
    rw [HV.out]
    go_wp2_with fail
    go_ret
    exact ⟨rfl, HB3.out.alloc HB3.out.size _⟩
  have HV : Aside (openV N K f m = .tuple #[.agg #[.int .i64 1, .string N, .string K, .int .i64 f, .int .i64 m, .string ⟨#[]⟩, .string ⟨#[]⟩, .int .i64 0], .string (F0 N f), .int .i64 0]) := ⟨(if_pos hbb).trans rfl⟩
  rw [HV.out]
  go_wp2_with fail
  refine (sHandOpen N K f m _ (by omega) (by omega)).mono ?_
  rintro e w3 ⟨rfl, hb⟩
  obtain ⟨ga, hga⟩ : ∃ g, g = w2.heap.size := ⟨_, rfl⟩
  have KA : Aside (Blk w3 ga 27 [.int .i64 1, .string N, .string K, .int .i64 f, .int .i64 m, .string ⟨#[]⟩, .string ⟨#[]⟩, .int .i64 0]) := ⟨by rw [hga]; exact (Blk.new w2 27 [.int .i64 1, .string N, .string K, .int .i64 f, .int .i64 m, .string ⟨#[]⟩, .string ⟨#[]⟩, .int .i64 0]).below hb⟩
  have HB3 : Aside (Below w.heap.size w w3) := ⟨below_later (HB2.out.alloc HB2.out.size _) hb⟩
  have hgw : w.heap.size ≤ ga := by rw [hga]; exact HB2.out.size
  clear hb
  rw [HV.out]
  rw [← hga]
  clear hga HB2 HV
  obtain ⟨F, hF⟩ : ∃ F, F = F0 N f := ⟨_, rfl⟩
  rw [← hF]
  have HF := Aside.mk hF
  clear hF
  cases hp : (N.toList == [112, 101, 101, 114])
  rotate_left
  · go_wp2_with fail
    go_ret
    exact ⟨rfl, HB3.out.alloc HB3.out.size _⟩
  go_wp2_with fail
  obtain ⟨w4, hw4⟩ : ∃ x, x = w3.alloc (.cells #[.int .i64 1, .string N, .string K, .int .i64 f, .int .i64 m, .string ⟨#[]⟩, .string ⟨#[]⟩, .int .i64 0] 27) := ⟨_, rfl⟩
  rw [← hw4]
  have KA4 : Aside (Blk w4 ga 27 [.int .i64 1, .string N, .string K, .int .i64 f, .int .i64 m, .string ⟨#[]⟩, .string ⟨#[]⟩, .int .i64 0]) := ⟨by rw [hw4]; exact KA.out.alloc _⟩
  have HB4 : Aside (Below w.heap.size w w4) := ⟨by rw [hw4]; exact HB3.out.alloc HB3.out.size _⟩
  have hl4 : ga < w4.heap.size := KA4.out.lt
  have hz4 : w.heap.size ≤ w4.heap.size := HB4.out.size
  clear hw4 KA HB3
  refine region_head 178 11 10 [(0, 54), (1, 55), (2, 56), (3, 57), (4, 58), (5, 59), (6, 60), (7, 61), (8, 62), (9, 13)] [(0, 54), (1, 55), (2, 56), (3, 57), (4, 58), (5, 59), (6, 60), (7, 61), (8, 62), (9, 13)] [(2, 1, 55), (3, 0, 54), (3, 2, 56), (4, 3, 57), (6, 5, 59), (7, 6, 60), (8, 4, 58), (8, 7, 61)] (fun c w' => Below w4.heap.size w4 w') (fun w1 w2 => Below w1.heap.size w1 w2) [(0, fun v w' => ∃ b : Nat, v = .slice (some ⟨b, 0, none⟩) 3 3 ∧ Blk w' b 9 keys3), (1, fun v _ => v = .slice A n c), (2, fun v _ => ∃ r : Int, v = .int .i64 r ∧ 0 ≤ r ∧ r ≤ 2), (3, fun v w' => ∃ b k : Nat, v = .pointer (some ⟨b, k, none⟩) ∧ k < 3 ∧ Blk w' b 9 keys3), (4, fun v _ => ∃ x : ByteArray, v = .string x ∧ x.size ≤ 3), (5, fun v _ => v = .slice A n c), (6, fun v _ => ∃ r : Int, v = .int .i64 r ∧ 0 ≤ r ∧ r ≤ 89), (7, fun v _ => ∃ r : Int, v = .int .i64 r ∧ 0 ≤ r ∧ r ≤ 94), (8, fun v _ => ∃ (C : ByteArray) (r : Int), v = .agg #[.int .i64 0, .string PEER, .string C, .int .i64 37, .int .i64 r, .string ⟨#[]⟩, .string ⟨#[]⟩, .int .i64 0] ∧ C.size ≤ 3 ∧ 0 ≤ r ∧ r ≤ 94), (9, fun v w' => ∃ b : Nat, v = .pointer (some ⟨b, 0, none⟩) ∧ w4.heap.size ≤ b ∧ Blk w' b 27 [.int .i64 0, .string ⟨#[]⟩, .string ⟨#[]⟩, .int .i64 0, .int .i64 0, .string ⟨#[]⟩, .string ⟨#[]⟩, .int .i64 0])] rfl (by kernel_rfl) rfl (by kernel_rfl) (by kernel_rfl) (by kernel_rfl) (by kernel_rfl) (allstab_cons (fun u w1 w2 hS ⟨b, e, hk⟩ => ⟨b, e, hk.below hS⟩) (allstab_cons (fun _ _ _ _ h => h) (allstab_cons (fun _ _ _ _ h => h) (allstab_cons (fun u w1 w2 hS ⟨b, k, e, h3, hk⟩ => ⟨b, k, e, h3, hk.below hS⟩) (allstab_cons (fun _ _ _ _ h => h) (allstab_cons (fun _ _ _ _ h => h) (allstab_cons (fun _ _ _ _ h => h) (allstab_cons (fun _ _ _ _ h => h) (allstab_cons (fun _ _ _ _ h => h) (allstab_cons (fun u w1 w2 hS ⟨b, e, h3, hk⟩ => ⟨b, e, h3, hk.below hS⟩) (allstab_nil))))))))))) ((Below.refl _ _).drew) (fun fr HFR => ?_) (fun fv wz HJ HF => ?_)
  · 
    have x_0 : ext fr 0 = _ := congrArg (fun a => Act.eval a (.tmp 0)) HFR.out
    conv at x_0 => rhs; simp only [Act.eval, Array.getD_eq_getD_getElem?, List.getElem?_toArray, List.getElem?_cons_succ, List.getElem?_cons_zero, Option.getD_some]
    refine allsteps_cons 0 1 rfl (fun av wv cv HJ hcv HX HD => ?_) ?_
    · skip
      clear HX HD x_0
      refine did_value (.slice (some ⟨wv.heap.size, 0, none⟩) 3 3) (wv.alloc (.cells keys3.toArray 9)) (by go_simp <;> rfl) ⟨HJ.out.alloc HJ.out.size _, (Below.refl _ _).alloc (Nat.le_refl _) _, gof_mk (fun v w' => ∃ b : Nat, v = .slice (some ⟨b, 0, none⟩) 3 3 ∧ Blk w' b 9 keys3) rfl <|  ⟨wv.heap.size, rfl, Blk.new wv 9 keys3⟩⟩
    refine allsteps_cons 1 2 rfl (fun av wv cv HJ hcv HX HD => ?_) ?_
    · skip
      have e_0 := (HX.out 0 rfl).trans x_0
      clear HX HD x_0
      refine did_value ?_ wv ?_ ⟨(fun h => h) HJ.out, Below.refl _ wv, ?_⟩
      rotate_left
      · go_simp
        rfl
      · exact rfl
    refine allsteps_cons 2 3 rfl (fun av wv cv HJ hcv HX HD => ?_) ?_
    · skip
      obtain ⟨v_55, e_55⟩ : ∃ v, evOf av (.tmp 55) = v := ⟨_, rfl⟩
      have g_55 : ((fun v _ => v = .slice A n c) : Value → World → Prop) v_55 wv := by have h := HD.out 1 55 rfl; rw [e_55] at h; exact h
      have g_55 : v_55 = .slice A n c := g_55
      subst g_55
      clear HX HD x_0
      refine did_call _ _ (by go_simp; first | rfl | (constructor <;> rfl)) ?_
      refine (lpick A n c wv (HC.out.later (below_later HB4.out HJ.out)) hn 1 3 (by omega) (by omega) (by omega)).mono ?_
      rintro e w5 ⟨r, rfl, r0, r1, hb⟩
      exact ⟨_, rfl, below_later HJ.out hb, hb, gof_mk (fun v _ => ∃ r : Int, v = .int .i64 r ∧ 0 ≤ r ∧ r ≤ 2) rfl <|  ⟨r, rfl, r0, by omega⟩⟩
    refine allsteps_cons 3 4 rfl (fun av wv cv HJ hcv HX HD => ?_) ?_
    · skip
      obtain ⟨v_54, e_54⟩ : ∃ v, evOf av (.tmp 54) = v := ⟨_, rfl⟩
      have g_54 : ((fun v w' => ∃ b : Nat, v = .slice (some ⟨b, 0, none⟩) 3 3 ∧ Blk w' b 9 keys3) : Value → World → Prop) v_54 wv := by have h := HD.out 0 54 rfl; rw [e_54] at h; exact h
      obtain ⟨b, rfl, hk⟩ := g_54
      obtain ⟨v_56, e_56⟩ : ∃ v, evOf av (.tmp 56) = v := ⟨_, rfl⟩
      have g_56 : ((fun v _ => ∃ r : Int, v = .int .i64 r ∧ 0 ≤ r ∧ r ≤ 2) : Value → World → Prop) v_56 wv := by have h := HD.out 2 56 rfl; rw [e_56] at h; exact h
      obtain ⟨r, rfl, r0, r1⟩ := g_56
      clear HX HD x_0
      obtain ⟨k, rfl⟩ := Int.eq_ofNat_of_zero_le r0
      have hk3 : k < 3 := by omega
      have hk3i : (k : Int) < 3 := by omega
      refine did_value (.pointer (some ⟨b, k, none⟩)) wv (by go_simp <;> rfl) ⟨HJ.out, Below.refl _ _, gof_mk (fun v w' => ∃ b k : Nat, v = .pointer (some ⟨b, k, none⟩) ∧ k < 3 ∧ Blk w' b 9 keys3) rfl <|  ⟨b, k, rfl, hk3, hk⟩⟩
    refine allsteps_cons 4 5 rfl (fun av wv cv HJ hcv HX HD => ?_) ?_
    · skip
      obtain ⟨v_57, e_57⟩ : ∃ v, evOf av (.tmp 57) = v := ⟨_, rfl⟩
      have g_57 : ((fun v w' => ∃ b k : Nat, v = .pointer (some ⟨b, k, none⟩) ∧ k < 3 ∧ Blk w' b 9 keys3) : Value → World → Prop) v_57 wv := by have h := HD.out 3 57 rfl; rw [e_57] at h; exact h
      obtain ⟨b, k, rfl, hk3, hk⟩ := g_57
      clear HX HD x_0
      obtain ⟨y, hy, hy2⟩ := keys3_at k hk3
      have hc := (hk.cell k).trans hy
      refine did_value (.string y) wv (by go_simp <;> rfl) ⟨HJ.out, Below.refl _ _, gof_mk (fun v _ => ∃ x : ByteArray, v = .string x ∧ x.size ≤ 3) rfl <|  ⟨y, rfl, hy2⟩⟩
    refine allsteps_cons 5 6 rfl (fun av wv cv HJ hcv HX HD => ?_) ?_
    · skip
      have e_0 := (HX.out 0 rfl).trans x_0
      clear HX HD x_0
      refine did_value ?_ wv ?_ ⟨(fun h => h) HJ.out, Below.refl _ wv, ?_⟩
      rotate_left
      · go_simp
        rfl
      · exact rfl
    refine allsteps_cons 6 7 rfl (fun av wv cv HJ hcv HX HD => ?_) ?_
    · skip
      obtain ⟨v_59, e_59⟩ : ∃ v, evOf av (.tmp 59) = v := ⟨_, rfl⟩
      have g_59 : ((fun v _ => v = .slice A n c) : Value → World → Prop) v_59 wv := by have h := HD.out 5 59 rfl; rw [e_59] at h; exact h
      have g_59 : v_59 = .slice A n c := g_59
      subst g_59
      clear HX HD x_0
      refine did_call _ _ (by go_simp; first | rfl | (constructor <;> rfl)) ?_
      refine (lpick A n c wv (HC.out.later (below_later HB4.out HJ.out)) hn 2 90 (by omega) (by omega) (by omega)).mono ?_
      rintro e w5 ⟨r, rfl, r0, r1, hb⟩
      exact ⟨_, rfl, below_later HJ.out hb, hb, gof_mk (fun v _ => ∃ r : Int, v = .int .i64 r ∧ 0 ≤ r ∧ r ≤ 89) rfl <|  ⟨r, rfl, r0, by omega⟩⟩
    refine allsteps_cons 7 8 rfl (fun av wv cv HJ hcv HX HD => ?_) ?_
    · skip
      obtain ⟨v_60, e_60⟩ : ∃ v, evOf av (.tmp 60) = v := ⟨_, rfl⟩
      have g_60 : ((fun v _ => ∃ r : Int, v = .int .i64 r ∧ 0 ≤ r ∧ r ≤ 89) : Value → World → Prop) v_60 wv := by have h := HD.out 6 60 rfl; rw [e_60] at h; exact h
      obtain ⟨r, rfl, r0, r1⟩ := g_60
      clear HX HD x_0
      refine did_value ?_ wv ?_ ⟨(fun h => h) HJ.out, Below.refl _ wv, ?_⟩
      rotate_left
      · go_simp
        rfl
      · exact (gof_mk (fun v _ => ∃ r : Int, v = .int .i64 r ∧ 0 ≤ r ∧ r ≤ 94) rfl <|  ⟨_, rfl, by rw [IntKind.wrap_i64]; omega, by rw [IntKind.wrap_i64]; omega⟩)
    refine allsteps_cons 8 9 rfl (fun av wv cv HJ hcv HX HD => ?_) ?_
    · skip
      obtain ⟨v_58, e_58⟩ : ∃ v, evOf av (.tmp 58) = v := ⟨_, rfl⟩
      have g_58 : ((fun v _ => ∃ x : ByteArray, v = .string x ∧ x.size ≤ 3) : Value → World → Prop) v_58 wv := by have h := HD.out 4 58 rfl; rw [e_58] at h; exact h
      obtain ⟨x4, rfl, hx4⟩ := g_58
      obtain ⟨v_61, e_61⟩ : ∃ v, evOf av (.tmp 61) = v := ⟨_, rfl⟩
      have g_61 : ((fun v _ => ∃ r : Int, v = .int .i64 r ∧ 0 ≤ r ∧ r ≤ 94) : Value → World → Prop) v_61 wv := by have h := HD.out 7 61 rfl; rw [e_61] at h; exact h
      obtain ⟨r, rfl, r0, r1⟩ := g_61
      clear HX HD x_0
      refine did_value ?_ wv ?_ ⟨(fun h => h) HJ.out, Below.refl _ wv, ?_⟩
      rotate_left
      · go_simp
        rfl
      · exact (gof_mk (fun v _ => ∃ (C : ByteArray) (r : Int), v = .agg #[.int .i64 0, .string PEER, .string C, .int .i64 37, .int .i64 r, .string ⟨#[]⟩, .string ⟨#[]⟩, .int .i64 0] ∧ C.size ≤ 3 ∧ 0 ≤ r ∧ r ≤ 94) rfl <|  ⟨_, _, rfl, hx4, r0, r1⟩)
    refine allsteps_cons 9 10 rfl (fun av wv cv HJ hcv HX HD => ?_) ?_
    · skip
      clear HX HD x_0
      refine did_value (.pointer (some ⟨wv.heap.size, 0, none⟩)) (wv.alloc (.cells #[.int .i64 0, .string ⟨#[]⟩, .string ⟨#[]⟩, .int .i64 0, .int .i64 0, .string ⟨#[]⟩, .string ⟨#[]⟩, .int .i64 0] 27)) (by go_simp <;> rfl) ⟨HJ.out.alloc HJ.out.size _, (Below.refl _ _).alloc (Nat.le_refl _) _, gof_mk (fun v w' => ∃ b : Nat, v = .pointer (some ⟨b, 0, none⟩) ∧ w4.heap.size ≤ b ∧ Blk w' b 27 [.int .i64 0, .string ⟨#[]⟩, .string ⟨#[]⟩, .int .i64 0, .int .i64 0, .string ⟨#[]⟩, .string ⟨#[]⟩, .int .i64 0]) rfl <|  ⟨wv.heap.size, rfl, HJ.out.size, Blk.new wv 27 [.int .i64 0, .string ⟨#[]⟩, .string ⟨#[]⟩, .int .i64 0, .int .i64 0, .string ⟨#[]⟩, .string ⟨#[]⟩, .int .i64 0]⟩⟩
    exact allsteps_nil _
  have hf := HF.out
  have g_54 : ((fun v w' => ∃ b : Nat, v = .slice (some ⟨b, 0, none⟩) 3 3 ∧ Blk w' b 9 keys3) : Value → World → Prop) (fv 54) wz := hf 0 54 rfl
  have g_55 : ((fun v _ => v = .slice A n c) : Value → World → Prop) (fv 55) wz := hf 1 55 rfl
  have g_56 : ((fun v _ => ∃ r : Int, v = .int .i64 r ∧ 0 ≤ r ∧ r ≤ 2) : Value → World → Prop) (fv 56) wz := hf 2 56 rfl
  have g_57 : ((fun v w' => ∃ b k : Nat, v = .pointer (some ⟨b, k, none⟩) ∧ k < 3 ∧ Blk w' b 9 keys3) : Value → World → Prop) (fv 57) wz := hf 3 57 rfl
  have g_58 : ((fun v _ => ∃ x : ByteArray, v = .string x ∧ x.size ≤ 3) : Value → World → Prop) (fv 58) wz := hf 4 58 rfl
  have g_59 : ((fun v _ => v = .slice A n c) : Value → World → Prop) (fv 59) wz := hf 5 59 rfl
  have g_60 : ((fun v _ => ∃ r : Int, v = .int .i64 r ∧ 0 ≤ r ∧ r ≤ 89) : Value → World → Prop) (fv 60) wz := hf 6 60 rfl
  have g_61 : ((fun v _ => ∃ r : Int, v = .int .i64 r ∧ 0 ≤ r ∧ r ≤ 94) : Value → World → Prop) (fv 61) wz := hf 7 61 rfl
  have g_62 : ((fun v _ => ∃ (C : ByteArray) (r : Int), v = .agg #[.int .i64 0, .string PEER, .string C, .int .i64 37, .int .i64 r, .string ⟨#[]⟩, .string ⟨#[]⟩, .int .i64 0] ∧ C.size ≤ 3 ∧ 0 ≤ r ∧ r ≤ 94) : Value → World → Prop) (fv 62) wz := hf 8 62 rfl
  have g_13 : ((fun v w' => ∃ b : Nat, v = .pointer (some ⟨b, 0, none⟩) ∧ w4.heap.size ≤ b ∧ Blk w' b 27 [.int .i64 0, .string ⟨#[]⟩, .string ⟨#[]⟩, .int .i64 0, .int .i64 0, .string ⟨#[]⟩, .string ⟨#[]⟩, .int .i64 0]) : Value → World → Prop) (fv 13) wz := hf 9 13 rfl
  clear hf HF
  simp only [List.drop_succ_cons, List.drop_zero, List.map_cons, List.map_nil, putAll, Act.put, List.setIfInBounds_toArray, List.set_cons_succ, List.set_cons_zero]
  obtain ⟨C, nn, g_62, hC, hn0, hn1⟩ := g_62
  obtain ⟨gb, g_13, hgb, hkb⟩ := g_13
  rw [g_13, g_62]
  have KB5 := Aside.mk hkb
  have KA5 := Aside.mk (KA4.out.below HJ.out)
  have HB5 := Aside.mk (below_later HB4.out HJ.out)
  have hab : ga < gb := by omega
  have HP : Aside (Pair N K C f m nn) := ⟨by
    unfold baseB at hbb
    simp only [Bool.and_eq_true, decide_eq_true_eq] at hbb
    refine ⟨hbb.1.1.1.1.1, fun e => ?_, hbb.1.1.1.1.2, by omega, hbb.1.1.1.2, hbb.1.1.2, hbb.1.2, hbb.2, hn0, by omega⟩
    have h2 : (N.toList == [112, 101, 101, 114]) = true := by rw [e, ByteArray.toList_eq]; rfl
    rw [hp] at h2
    cases h2⟩
  clear g_13 g_62 g_54 g_55 g_56 g_57 g_58 g_59 g_60 g_61 hkb KA4 HB4 HJ hl4 hz4 hgb
  go_wp2_with (refine wpList_store_blk rfl 27 _ _ rfl gb [.int .i64 0, .string PEER, .string C, .int .i64 37, .int .i64 nn, .string ⟨#[]⟩, .string ⟨#[]⟩, .int .i64 0] rfl rfl 27 [.int .i64 0, .string ⟨#[]⟩, .string ⟨#[]⟩, .int .i64 0, .int .i64 0, .string ⟨#[]⟩, .string ⟨#[]⟩, .int .i64 0] (KB5.out) (by kernel_rfl) rfl rfl ?_; intro w9 k9 hg9; have K9 := Aside.mk k9; have G9 := Aside.mk hg9; clear k9 hg9)
  have HS0 : Aside (HSAt w (((w9.alloc (.cells #[.string F] 9)).alloc (.cells #[] 9)).alloc (.cells #[] 9)) ga gb (.slice (some ⟨w9.heap.size, 0, none⟩) 1 1) (.slice (some ⟨w9.heap.size + 1, 0, none⟩) 0 0) (start N K C f m nn)) := ⟨by
    have hz : w.heap.size ≤ w9.heap.size := (below_grown HB5.out G9.out (by omega)).size
    have hgl : gb < w9.heap.size := K9.out.lt
    refine ⟨(((below_grown HB5.out G9.out (by omega)).alloc hz _).alloc (by simp; omega) _).alloc (by simp; omega) _, (((KA5.out.grown G9.out (by intro e; injection e with e; omega)).alloc _).alloc _).alloc _, ((K9.out.alloc _).alloc _).alloc _,
      w9.heap.size, 0, 1, w9.heap.size + 1, 0, 0, rfl, rfl, ?_, ?_, by omega⟩
    · have h1 := QAt.first w9 9 (gb + 1) (by omega) [F0 N f]
      rw [← HF.out] at h1
      have e1 : (start N K C f m nn).qb = [F] := by rw [HF.out]; rfl
      rw [e1]
      refine h1.keep ?_
      rw [Below.heap_alloc _ _ _ (by simp; omega), Below.heap_alloc _ _ _ (by simp)]
      rfl
    · have h1 := QAt.first (w9.alloc (.cells #[.string F] 9)) 9 (gb + 1) (by simp; omega) []
      have e1 : (w9.alloc (.cells #[.string F] 9)).heap.size = w9.heap.size + 1 := by simp
      rw [e1] at h1
      refine h1.keep ?_
      rw [Below.heap_alloc _ _ _ (by simp)]
      rfl⟩
  generalize ((w9.alloc (.cells #[.string F] 9)).alloc (.cells #[] 9)).alloc (.cells #[] 9) = w10 at HS0 ⊢
  have HH := Aside.mk (hands HP.out)
  clear KB5 KA5 HB5 K9 G9 hp hbb
  go_loopw [9, 14, 15, 16, 17] (fun ev tb ta _ iv wr => ∃ (i : Nat) (a b : AHand) (qa qb : List ByteArray), i ≤ 12 ∧ iv = .int .i64 i ∧ ev = .int .i64 0 ∧ Aside (hsN (start N K C f m nn) i = ⟨a, b, qa, qb⟩) ∧ Aside (HSAt w wr ga gb tb ta ⟨a, b, qa, qb⟩)) (fun _ _ _ _ iv _ => 12 - (intOf iv).toNat)
  case atStart => exact ⟨0, _, _, _, _, by omega, rfl, rfl, ⟨rfl⟩, HS0⟩
  case round =>
    obtain ⟨i, a, b, qa, qb, hi12, rfl, rfl, hst, hat⟩ := hrel
    clear HS0
    obtain ⟨bel, ka, kb, gB, oB, cB, gA, oA, cA, htb, hta, qB, qA, hne⟩ := hat.out
    clear hat
    have hsmall := HH.out.1 i
    rw [hst.out] at hsmall
    dsimp only at ka kb htb hta qB qA
    subst htb hta
    have hzw : w.heap.size ≤ wr.heap.size := bel.size
    by_cases hi : i < 12
    · have hii : (i : Int) < 12 := by omega
      have hstep : Aside (hsN (start N K C f m nn) (i + 1) = HS.step ⟨a, b, qa, qb⟩) := ⟨by show (hsN _ i).step = _; rw [hst.out]⟩
      clear hst
      cases qb with
      | cons x r =>
        have hcode : (hstR b x).2.2 = 0 := hsmall.2.2.2.2.2.2
        have hwt : RHand.wt b ≤ 1048576 := hsmall.2.1
        have hxs : x.size ≤ 1048576 := hsmall.2.2.2.1 x List.mem_cons_self
        have hlen : qa.length ≤ 2 := hsmall.2.2.2.2.1
        obtain ⟨b0, b1, b2, b3, b4, b5, b6, b7⟩ := b
        obtain ⟨⟨⟨q0, q1, q2, q3, q4, q5, q6, q7⟩, rs, rc⟩, hr⟩ : ∃ r, r = hstR (b0, b1, b2, b3, b4, b5, b6, b7) x := ⟨_, rfl⟩
        have HST2 : Aside (HS.step ⟨a, (b0, b1, b2, b3, b4, b5, b6, b7), qa, x :: r⟩ = ⟨a, (q0, q1, q2, q3, q4, q5, q6, q7), qa ++ rs, r⟩) := ⟨by unfold HS.step; dsimp only; rw [← hr]⟩
        have hrl : rs.length ≤ 2 := by
          have hs2 := HH.out.1 (i + 1)
          rw [hstep.out, HST2.out] at hs2
          have h5 : (qa ++ rs).length ≤ 2 := hs2.2.2.2.2.1
          rw [List.length_append] at h5
          omega
        rw [← hr] at hcode
        have hcode : rc = 0 := hcode
        subst hcode
        have HR := Aside.mk hr
        have HWX := Aside.mk hwt
        have HXS := Aside.mk hxs
        obtain ⟨nb, hnb⟩ : ∃ k, k = (x :: r).length := ⟨_, rfl⟩
        have hnb1 : nb = r.length + 1 := hnb
        rw [← hnb]
        have hnbi : (0 : Int) < nb := by omega
        have kb : Aside (Blk wr gb 27 [.int .i64 b0, .string b1, .string b2, .int .i64 b3, .int .i64 b4, .string b5, .string b6, .int .i64 b7]) := ⟨kb⟩
        have ka := Aside.mk ka
        have BEL := Aside.mk bel
        have QB := Aside.mk qB
        have QA := Aside.mk qA
        have yq := QB.out.cell
        have lq : gB < wr.heap.size := QB.out.lt
        have lo : gA < wr.heap.size := QA.out.lt
        have lb : gb < wr.heap.size := kb.out.lt
        have y0 := kb.out.cell 0
        have y1 := kb.out.cell 1
        have y2 := kb.out.cell 2
        have y3 := kb.out.cell 3
        have y4 := kb.out.cell 4
        have y5 := kb.out.cell 5
        have y6 := kb.out.cell 6
        have y7 := kb.out.cell 7
        simp only [List.getElem?_cons_zero, List.getElem?_cons_succ] at y0 y1 y2 y3 y4 y5 y6 y7
        have hgS : gb + 1 ≤ gB := qB.1
        have hgO : gb + 1 ≤ gA := qA.1
        clear hnb hsmall bel qA qB hr hwt hxs
        go_wp2_with fail
        refine region_env2 [(0, true), (1, true), (2, true), (3, true), (4, false), (5, true), (6, true), (7, true), (8, true), (9, false), (10, true), (11, true)] (fun w' => Below wr.heap.size wr w') (fun _ => True) 9 178 rfl (by kernel_rfl) (by kernel_rfl) (fun _ _ d _ _ h => by cases d <;> exact h) (fun _ _ => trivial) ((Below.refl _ _).drew) (fun ops fr HFR HSZ HWT hl => ?_)
        have hl_0 := ops_start hl
        clear hl
        obtain ⟨H0, hl_1⟩ := ops_next 0 1 rfl hl_0
        clear hl_0
        obtain ⟨H1, hl_2⟩ := ops_next 1 2 rfl hl_1
        clear hl_1
        obtain ⟨H2, hl_3⟩ := ops_next 2 3 rfl hl_2
        clear hl_2
        obtain ⟨H3, hl_4⟩ := ops_next 3 4 rfl hl_3
        clear hl_3
        obtain ⟨H4, hl_5⟩ := ops_next 4 5 rfl hl_4
        clear hl_4
        obtain ⟨H5, hl_6⟩ := ops_next 5 6 rfl hl_5
        clear hl_5
        obtain ⟨H6, hl_7⟩ := ops_next 6 7 rfl hl_6
        clear hl_6
        obtain ⟨H7, hl_8⟩ := ops_next 7 8 rfl hl_7
        clear hl_7
        obtain ⟨H8, hl_9⟩ := ops_next 8 9 rfl hl_8
        clear hl_8
        obtain ⟨H9, hl_10⟩ := ops_next 9 10 rfl hl_9
        clear hl_9
        obtain ⟨H10, hl_11⟩ := ops_next 10 11 rfl hl_10
        clear hl_10
        obtain ⟨H11, hl_12⟩ := ops_next 11 12 rfl hl_11
        clear hl_11
        clear hl_12
        have x_13 : ext fr 13 = _ := congrArg (fun a => Act.eval a (.tmp 13)) HFR.out
        conv at x_13 => rhs; simp only [Act.eval, Array.getD_eq_getD_getElem?, List.getElem?_toArray, List.getElem?_cons_succ, List.getElem?_cons_zero, Option.getD_some]
        have x_14 : ext fr 14 = _ := congrArg (fun a => Act.eval a (.tmp 14)) HFR.out
        conv at x_14 => rhs; simp only [Act.eval, Array.getD_eq_getD_getElem?, List.getElem?_toArray, List.getElem?_cons_succ, List.getElem?_cons_zero, Option.getD_some]
        refine env2_early HSZ (by decide) HWT (by kernel_rfl) H0.out ?_ (fun w' hS => ?_) ?_
        rotate_left
        (have h0 := (hS.cell (p := ⟨gb, 0, none⟩) lb).trans y0
         have h1 := (hS.cell (p := ⟨gb, 1, none⟩) lb).trans y1
         have h2 := (hS.cell (p := ⟨gb, 2, none⟩) lb).trans y2
         have h3 := (hS.cell (p := ⟨gb, 3, none⟩) lb).trans y3
         have h4 := (hS.cell (p := ⟨gb, 4, none⟩) lb).trans y4
         have h5 := (hS.cell (p := ⟨gb, 5, none⟩) lb).trans y5
         have h6 := (hS.cell (p := ⟨gb, 6, none⟩) lb).trans y6
         have h7 := (hS.cell (p := ⟨gb, 7, none⟩) lb).trans y7
         go_simp
         rfl)
        refine env2_yes HSZ (by decide) H1.out ?_ (fun w' hS => ?_) ?_
        rotate_left
        (go_simp
         rfl)
        refine env2_yes HSZ (by decide) H2.out ?_ (fun w' hS => ?_) ?_
        rotate_left
        (go_simp
         rfl)
        refine env2_early HSZ (by decide) HWT (by kernel_rfl) H3.out ?_ (fun w' hS => ?_) ?_
        rotate_left
        (have h := (hS.cell (p := ⟨gB, oB, none⟩) lq).trans yq
         go_simp
         rfl)
        refine env2_call HSZ H4.out ?_ ?_ ?_ ?_
        rotate_left 2
        (go_simp
         first | rfl | (constructor <;> rfl))
        refine (iHSt (b0, b1, b2, b3, b4, b5, b6, b7) x _ _ ((flat_hand False _ _ _ _).2 rfl) HWX.out HXS.out (tab_below HT.out BEL.out.drew)).mono ?_
        rw [← HR.out]
        rintro e w5 ⟨cs, v, rfl, hrd, hv, hb⟩
        obtain ⟨Av, cv, ev, -⟩ := id hv
        injection ev with ev _
        subst ev
        have ecs : cs = [.int .i64 q0, .string q1, .string q2, .int .i64 q3, .int .i64 q4, .string q5, .string q6, .int .i64 q7] := (flat_hand _ _ _ _ _).1 hrd
        subst ecs
        have HB6 : Aside (Below wr.heap.size wr w5) := ⟨⟨hb.os, hb.tape, hb.output, hb.size, hb.block⟩⟩
        have HV : Aside (Rec.str.sl.rd True w5 (Span wr.heap.size w5.heap.size) rs [_]) := ⟨hv⟩
        have k5 := kb.out.below HB6.out
        have c0 := k5.cell 0
        have c1 := k5.cell 1
        have c2 := k5.cell 2
        have c3 := k5.cell 3
        have c4 := k5.cell 4
        have c5 := k5.cell 5
        have c6 := k5.cell 6
        have c7 := k5.cell 7
        have f0 := k5.free 0
        have f1 := k5.free 1
        have f2 := k5.free 2
        have f3 := k5.free 3
        have f4 := k5.free 4
        have f5 := k5.free 5
        have f6 := k5.free 6
        have f7 := k5.free 7
        simp only [List.getElem?_cons_zero, List.getElem?_cons_succ] at c0 c1 c2 c3 c4 c5 c6 c7
        have K5 := Aside.mk k5
        clear k5 hrd hv hb
        refine ⟨_, rfl, HB6.out, ?_⟩
        refine env2_yes HSZ (by decide) H5.out ?_ (fun w' hS => ?_) ?_
        rotate_left
        (go_simp
         rfl)
        refine env2_yes HSZ (by decide) H6.out ?_ (fun w' hS => ?_) ?_
        rotate_left
        (go_simp
         rfl)
        refine env2_yes HSZ (by decide) H7.out ?_ (fun w' hS => ?_) ?_
        rotate_left
        (go_simp
         rfl)
        refine env2_yes HSZ (by decide) H8.out ?_ (fun w' hS => ?_) ?_
        rotate_left
        (go_simp
         rfl)
        refine env2_store HSZ H9.out ?_ ?_ ?_ ?_
        rotate_left 1
        (go_simp; rfl)
        trivial
        refine env2_yes HSZ (by decide) H10.out ?_ (fun w' hS => ?_) ?_
        rotate_left
        (go_simp
         rfl)
        refine env2_yes HSZ (by decide) H11.out ?_ (fun w' hS => ?_) ?_
        rotate_left
        (go_simp
         rfl)
        refine env2_end ?_
        have hfr := HFR.out
        clear HFR HSZ HWT H0 H1 H2 H3 H4 H5 H6 H7 H8 H9 H10 H11 x_13 x_14
        subst hfr
        simp only [putAll, Act.put, List.setIfInBounds_toArray, List.set_cons_succ, List.set_cons_zero]
        obtain ⟨w6, hw6⟩ : ∃ z, z = ((((((((w5).setCell ⟨gb, 0, none⟩ (.int .i64 q0)).setCell ⟨gb, 1, none⟩ (.string q1)).setCell ⟨gb, 2, none⟩ (.string q2)).setCell ⟨gb, 3, none⟩ (.int .i64 q3)).setCell ⟨gb, 4, none⟩ (.int .i64 q4)).setCell ⟨gb, 5, none⟩ (.string q5)).setCell ⟨gb, 6, none⟩ (.string q6)).setCell ⟨gb, 7, none⟩ (.int .i64 q7) := ⟨_, rfl⟩
        rw [← hw6]
        have K6 : Aside (Blk w6 gb 27 [.int .i64 q0, .string q1, .string q2, .int .i64 q3, .int .i64 q4, .string q5, .string q6, .int .i64 q7]) := ⟨by rw [hw6]; exact ((((((((K5.out).set 0 _).set 1 _).set 2 _).set 3 _).set 4 _).set 5 _).set 6 _).set 7 _⟩
        have G6 : Aside (w5.grownBy w6 (some gb)) := ⟨by rw [hw6]; exact grown_set (grown_set (grown_set (grown_set (grown_set (grown_set (grown_set (grown_set ((grown_refl w5 (some gb))) 0 _) 1 _) 2 _) 3 _) 4 _) 5 _) 6 _) 7 _⟩
        clear hw6 c0 c1 c2 c3 c4 c5 c6 c7 f0 f1 f2 f3 f4 f5 f6 f7 K5
        clear yq y0 y1 y2 y3 y4 y5 y6 y7
        have HK : Aside (∀ j, j < wr.heap.size → j ≠ gb → w6.heap[j]? = wr.heap[j]?) := ⟨fun j hj hn => (G6.out.block j (Nat.lt_of_lt_of_le hj HB6.out.size) (by intro e; injection e with e; omega)).trans (HB6.out.block j hj)⟩
        have QS6 := QB.out.keep (HK.out _ lq (by omega))
        have QO6 := QA.out.keep (HK.out _ lo (by omega))
        have KO6 : Aside (Blk w6 ga 27 _) := ⟨(HK.out ga ka.out.lt (by omega)).trans ka.out⟩
        have B6 : Aside (Below w.heap.size w w6) := ⟨below_grown (below_later BEL.out HB6.out) G6.out (by omega)⟩
        have hs6 : w5.heap.size ≤ w6.heap.size := G6.out.size
        have hs5 : wr.heap.size ≤ w5.heap.size := HB6.out.size
        have HV6 := Aside.mk (Rec.str.sl.frame (S' := fun _ => True) HV.out (fun j hj => G6.out.block j hj.2 (by intro e; injection e with e; have h1 := hj.1; omega)) (fun _ _ => trivial))
        have HQT := Aside.mk QS6.tail
        have HQ1 : Aside (cB = 1 → QAt w6 (gb + 1) gB oB 0 r) := ⟨cut_one QS6⟩
        obtain ⟨g2, oN, cap2, w7, hrun, Q7, hkeep, hbel7, hnew⟩ := QO6.app (by omega) rs _ _ HV6.out (by omega)
        have HKEEP := Aside.mk hkeep
        have HRUN := Aside.mk hrun
        have HB7 := Aside.mk hbel7
        have HNEW := Aside.mk hnew
        have HQ7 := Aside.mk Q7
        have lS6 : gB < w6.heap.size := QS6.lt
        have lK6 : gb < w6.heap.size := K6.out.lt
        have lO6 : ga < w6.heap.size := KO6.out.lt
        clear hrun hkeep hbel7 hnew Q7 QS6 QO6
        have HFIN : Aside (∀ oS cS, QAt w6 (gb + 1) gB oS cS r → HSAt w w7 ga gb (.slice (some ⟨gB, oS, none⟩) r.length cS) (.slice (some ⟨g2, oN, none⟩) (qa ++ rs).length cap2) ⟨a, (q0, q1, q2, q3, q4, q5, q6, q7), qa ++ rs, r⟩) := ⟨by
          intro oS cS hq
          refine ⟨B6.out.trans (HB7.out.mono (by omega)), (HKEEP.out ga lO6 (by omega)).trans KO6.out, (HKEEP.out gb lK6 (by omega)).trans K6.out, gB, oS, cS, g2, oN, cap2, rfl, rfl, hq.keep (HKEEP.out gB lS6 (by omega)), HQ7.out, ?_⟩
          rcases HNEW.out with e | e <;> omega⟩
        go_wp2_with (at_builtin; refine Go.Lib.wpList_append_run _ rfl _ _ _ _ rfl _ _ rfl rfl _ _ HRUN.out ?_)
        go_roundw
        case rel =>
          refine ⟨i + 1, a, (q0, q1, q2, q3, q4, q5, q6, q7), qa ++ rs, r, by omega, by go_num, rfl, ⟨hstep.out.trans HST2.out⟩, ⟨?_⟩⟩
          by_cases hc1 : cB = 1
          · have hfin := HFIN.out oB 0 (HQ1.out hc1)
            subst hc1
            rw [List.length_append] at hfin
            first | exact hfin | simpa using hfin
          · have hfin := HFIN.out (oB + 1) (cB - 1) HQT.out
            rw [if_neg hc1]
            rw [List.length_append] at hfin
            first | exact hfin | simpa using hfin
        case measure => first | (simp [intOf]; done) | (simp [intOf]; omega)
      | nil =>
        cases qa with
        | cons x r =>
          have hcode : (hstR a x).2.2 = 0 := hsmall.2.2.2.2.2.2
          have hwt : RHand.wt a ≤ 1048576 := hsmall.1
          have hxs : x.size ≤ 1048576 := hsmall.2.2.1 x List.mem_cons_self
          have hlen : ([] : List ByteArray).length ≤ 2 := hsmall.2.2.2.2.2.1
          obtain ⟨a0, a1, a2, a3, a4, a5, a6, a7⟩ := a
          obtain ⟨⟨⟨q0, q1, q2, q3, q4, q5, q6, q7⟩, rs, rc⟩, hr⟩ : ∃ r, r = hstR (a0, a1, a2, a3, a4, a5, a6, a7) x := ⟨_, rfl⟩
          have HST2 : Aside (HS.step ⟨(a0, a1, a2, a3, a4, a5, a6, a7), b, x :: r, []⟩ = ⟨(q0, q1, q2, q3, q4, q5, q6, q7), b, r, [] ++ rs⟩) := ⟨by unfold HS.step; dsimp only; rw [← hr]⟩
          have hrl : rs.length ≤ 2 := by
            have hs2 := HH.out.1 (i + 1)
            rw [hstep.out, HST2.out] at hs2
            have h5 : (([] : List ByteArray) ++ rs).length ≤ 2 := hs2.2.2.2.2.2.1
            rw [List.length_append] at h5
            omega
          rw [← hr] at hcode
          have hcode : rc = 0 := hcode
          subst hcode
          have HR := Aside.mk hr
          have HWX := Aside.mk hwt
          have HXS := Aside.mk hxs
          obtain ⟨nb, hnb⟩ : ∃ k, k = (x :: r).length := ⟨_, rfl⟩
          have hnb1 : nb = r.length + 1 := hnb
          rw [← hnb]
          have hnbi : (0 : Int) < nb := by omega
          have ka : Aside (Blk wr ga 27 [.int .i64 a0, .string a1, .string a2, .int .i64 a3, .int .i64 a4, .string a5, .string a6, .int .i64 a7]) := ⟨ka⟩
          have kb := Aside.mk kb
          have BEL := Aside.mk bel
          have QB := Aside.mk qB
          have QA := Aside.mk qA
          have yq := QA.out.cell
          have lq : gA < wr.heap.size := QA.out.lt
          have lo : gB < wr.heap.size := QB.out.lt
          have lb : ga < wr.heap.size := ka.out.lt
          have y0 := ka.out.cell 0
          have y1 := ka.out.cell 1
          have y2 := ka.out.cell 2
          have y3 := ka.out.cell 3
          have y4 := ka.out.cell 4
          have y5 := ka.out.cell 5
          have y6 := ka.out.cell 6
          have y7 := ka.out.cell 7
          simp only [List.getElem?_cons_zero, List.getElem?_cons_succ] at y0 y1 y2 y3 y4 y5 y6 y7
          have hgS : gb + 1 ≤ gA := qA.1
          have hgO : gb + 1 ≤ gB := qB.1
          clear hnb hsmall bel qA qB hr hwt hxs
          go_wp2_with fail
          refine region_env2 [(0, true), (1, true), (2, true), (3, true), (4, false), (5, true), (6, true), (7, true), (8, true), (9, false), (10, true), (11, true)] (fun w' => Below wr.heap.size wr w') (fun _ => True) 9 178 rfl (by kernel_rfl) (by kernel_rfl) (fun _ _ d _ _ h => by cases d <;> exact h) (fun _ _ => trivial) ((Below.refl _ _).drew) (fun ops fr HFR HSZ HWT hl => ?_)
          have hl_0 := ops_start hl
          clear hl
          obtain ⟨H0, hl_1⟩ := ops_next 0 1 rfl hl_0
          clear hl_0
          obtain ⟨H1, hl_2⟩ := ops_next 1 2 rfl hl_1
          clear hl_1
          obtain ⟨H2, hl_3⟩ := ops_next 2 3 rfl hl_2
          clear hl_2
          obtain ⟨H3, hl_4⟩ := ops_next 3 4 rfl hl_3
          clear hl_3
          obtain ⟨H4, hl_5⟩ := ops_next 4 5 rfl hl_4
          clear hl_4
          obtain ⟨H5, hl_6⟩ := ops_next 5 6 rfl hl_5
          clear hl_5
          obtain ⟨H6, hl_7⟩ := ops_next 6 7 rfl hl_6
          clear hl_6
          obtain ⟨H7, hl_8⟩ := ops_next 7 8 rfl hl_7
          clear hl_7
          obtain ⟨H8, hl_9⟩ := ops_next 8 9 rfl hl_8
          clear hl_8
          obtain ⟨H9, hl_10⟩ := ops_next 9 10 rfl hl_9
          clear hl_9
          obtain ⟨H10, hl_11⟩ := ops_next 10 11 rfl hl_10
          clear hl_10
          obtain ⟨H11, hl_12⟩ := ops_next 11 12 rfl hl_11
          clear hl_11
          clear hl_12
          have x_7 : ext fr 7 = _ := congrArg (fun a => Act.eval a (.tmp 7)) HFR.out
          conv at x_7 => rhs; simp only [Act.eval, Array.getD_eq_getD_getElem?, List.getElem?_toArray, List.getElem?_cons_succ, List.getElem?_cons_zero, Option.getD_some]
          have x_15 : ext fr 15 = _ := congrArg (fun a => Act.eval a (.tmp 15)) HFR.out
          conv at x_15 => rhs; simp only [Act.eval, Array.getD_eq_getD_getElem?, List.getElem?_toArray, List.getElem?_cons_succ, List.getElem?_cons_zero, Option.getD_some]
          refine env2_early HSZ (by decide) HWT (by kernel_rfl) H0.out ?_ (fun w' hS => ?_) ?_
          rotate_left
          (have h0 := (hS.cell (p := ⟨ga, 0, none⟩) lb).trans y0
           have h1 := (hS.cell (p := ⟨ga, 1, none⟩) lb).trans y1
           have h2 := (hS.cell (p := ⟨ga, 2, none⟩) lb).trans y2
           have h3 := (hS.cell (p := ⟨ga, 3, none⟩) lb).trans y3
           have h4 := (hS.cell (p := ⟨ga, 4, none⟩) lb).trans y4
           have h5 := (hS.cell (p := ⟨ga, 5, none⟩) lb).trans y5
           have h6 := (hS.cell (p := ⟨ga, 6, none⟩) lb).trans y6
           have h7 := (hS.cell (p := ⟨ga, 7, none⟩) lb).trans y7
           go_simp
           rfl)
          refine env2_yes HSZ (by decide) H1.out ?_ (fun w' hS => ?_) ?_
          rotate_left
          (go_simp
           rfl)
          refine env2_yes HSZ (by decide) H2.out ?_ (fun w' hS => ?_) ?_
          rotate_left
          (go_simp
           rfl)
          refine env2_early HSZ (by decide) HWT (by kernel_rfl) H3.out ?_ (fun w' hS => ?_) ?_
          rotate_left
          (have h := (hS.cell (p := ⟨gA, oA, none⟩) lq).trans yq
           go_simp
           rfl)
          refine env2_call HSZ H4.out ?_ ?_ ?_ ?_
          rotate_left 2
          (go_simp
           first | rfl | (constructor <;> rfl))
          refine (iHSt (a0, a1, a2, a3, a4, a5, a6, a7) x _ _ ((flat_hand False _ _ _ _).2 rfl) HWX.out HXS.out (tab_below HT.out BEL.out.drew)).mono ?_
          rw [← HR.out]
          rintro e w5 ⟨cs, v, rfl, hrd, hv, hb⟩
          obtain ⟨Av, cv, ev, -⟩ := id hv
          injection ev with ev _
          subst ev
          have ecs : cs = [.int .i64 q0, .string q1, .string q2, .int .i64 q3, .int .i64 q4, .string q5, .string q6, .int .i64 q7] := (flat_hand _ _ _ _ _).1 hrd
          subst ecs
          have HB6 : Aside (Below wr.heap.size wr w5) := ⟨⟨hb.os, hb.tape, hb.output, hb.size, hb.block⟩⟩
          have HV : Aside (Rec.str.sl.rd True w5 (Span wr.heap.size w5.heap.size) rs [_]) := ⟨hv⟩
          have k5 := ka.out.below HB6.out
          have c0 := k5.cell 0
          have c1 := k5.cell 1
          have c2 := k5.cell 2
          have c3 := k5.cell 3
          have c4 := k5.cell 4
          have c5 := k5.cell 5
          have c6 := k5.cell 6
          have c7 := k5.cell 7
          have f0 := k5.free 0
          have f1 := k5.free 1
          have f2 := k5.free 2
          have f3 := k5.free 3
          have f4 := k5.free 4
          have f5 := k5.free 5
          have f6 := k5.free 6
          have f7 := k5.free 7
          simp only [List.getElem?_cons_zero, List.getElem?_cons_succ] at c0 c1 c2 c3 c4 c5 c6 c7
          have K5 := Aside.mk k5
          clear k5 hrd hv hb
          refine ⟨_, rfl, HB6.out, ?_⟩
          refine env2_yes HSZ (by decide) H5.out ?_ (fun w' hS => ?_) ?_
          rotate_left
          (go_simp
           rfl)
          refine env2_yes HSZ (by decide) H6.out ?_ (fun w' hS => ?_) ?_
          rotate_left
          (go_simp
           rfl)
          refine env2_yes HSZ (by decide) H7.out ?_ (fun w' hS => ?_) ?_
          rotate_left
          (go_simp
           rfl)
          refine env2_yes HSZ (by decide) H8.out ?_ (fun w' hS => ?_) ?_
          rotate_left
          (go_simp
           rfl)
          refine env2_store HSZ H9.out ?_ ?_ ?_ ?_
          rotate_left 1
          (go_simp; rfl)
          trivial
          refine env2_yes HSZ (by decide) H10.out ?_ (fun w' hS => ?_) ?_
          rotate_left
          (go_simp
           rfl)
          refine env2_yes HSZ (by decide) H11.out ?_ (fun w' hS => ?_) ?_
          rotate_left
          (go_simp
           rfl)
          refine env2_end ?_
          have hfr := HFR.out
          clear HFR HSZ HWT H0 H1 H2 H3 H4 H5 H6 H7 H8 H9 H10 H11 x_7 x_15
          subst hfr
          simp only [putAll, Act.put, List.setIfInBounds_toArray, List.set_cons_succ, List.set_cons_zero]
          obtain ⟨w6, hw6⟩ : ∃ z, z = ((((((((w5).setCell ⟨ga, 0, none⟩ (.int .i64 q0)).setCell ⟨ga, 1, none⟩ (.string q1)).setCell ⟨ga, 2, none⟩ (.string q2)).setCell ⟨ga, 3, none⟩ (.int .i64 q3)).setCell ⟨ga, 4, none⟩ (.int .i64 q4)).setCell ⟨ga, 5, none⟩ (.string q5)).setCell ⟨ga, 6, none⟩ (.string q6)).setCell ⟨ga, 7, none⟩ (.int .i64 q7) := ⟨_, rfl⟩
          rw [← hw6]
          have K6 : Aside (Blk w6 ga 27 [.int .i64 q0, .string q1, .string q2, .int .i64 q3, .int .i64 q4, .string q5, .string q6, .int .i64 q7]) := ⟨by rw [hw6]; exact ((((((((K5.out).set 0 _).set 1 _).set 2 _).set 3 _).set 4 _).set 5 _).set 6 _).set 7 _⟩
          have G6 : Aside (w5.grownBy w6 (some ga)) := ⟨by rw [hw6]; exact grown_set (grown_set (grown_set (grown_set (grown_set (grown_set (grown_set (grown_set ((grown_refl w5 (some ga))) 0 _) 1 _) 2 _) 3 _) 4 _) 5 _) 6 _) 7 _⟩
          clear hw6 c0 c1 c2 c3 c4 c5 c6 c7 f0 f1 f2 f3 f4 f5 f6 f7 K5
          clear yq y0 y1 y2 y3 y4 y5 y6 y7
          have HK : Aside (∀ j, j < wr.heap.size → j ≠ ga → w6.heap[j]? = wr.heap[j]?) := ⟨fun j hj hn => (G6.out.block j (Nat.lt_of_lt_of_le hj HB6.out.size) (by intro e; injection e with e; omega)).trans (HB6.out.block j hj)⟩
          have QS6 := QA.out.keep (HK.out _ lq (by omega))
          have QO6 := QB.out.keep (HK.out _ lo (by omega))
          have KO6 : Aside (Blk w6 gb 27 _) := ⟨(HK.out gb kb.out.lt (by omega)).trans kb.out⟩
          have B6 : Aside (Below w.heap.size w w6) := ⟨below_grown (below_later BEL.out HB6.out) G6.out (by omega)⟩
          have hs6 : w5.heap.size ≤ w6.heap.size := G6.out.size
          have hs5 : wr.heap.size ≤ w5.heap.size := HB6.out.size
          have HV6 := Aside.mk (Rec.str.sl.frame (S' := fun _ => True) HV.out (fun j hj => G6.out.block j hj.2 (by intro e; injection e with e; have h1 := hj.1; omega)) (fun _ _ => trivial))
          have HQT := Aside.mk QS6.tail
          have HQ1 : Aside (cA = 1 → QAt w6 (gb + 1) gA oA 0 r) := ⟨cut_one QS6⟩
          obtain ⟨g2, oN, cap2, w7, hrun, Q7, hkeep, hbel7, hnew⟩ := QO6.app (by omega) rs _ _ HV6.out (by omega)
          have HKEEP := Aside.mk hkeep
          have HRUN := Aside.mk hrun
          have HB7 := Aside.mk hbel7
          have HNEW := Aside.mk hnew
          have HQ7 := Aside.mk Q7
          have lS6 : gA < w6.heap.size := QS6.lt
          have lK6 : ga < w6.heap.size := K6.out.lt
          have lO6 : gb < w6.heap.size := KO6.out.lt
          clear hrun hkeep hbel7 hnew Q7 QS6 QO6
          have HFIN : Aside (∀ oS cS, QAt w6 (gb + 1) gA oS cS r → HSAt w w7 ga gb (.slice (some ⟨g2, oN, none⟩) (([] : List ByteArray) ++ rs).length cap2) (.slice (some ⟨gA, oS, none⟩) r.length cS) ⟨(q0, q1, q2, q3, q4, q5, q6, q7), b, r, [] ++ rs⟩) := ⟨by
            intro oS cS hq
            refine ⟨B6.out.trans (HB7.out.mono (by omega)), (HKEEP.out ga lK6 (by omega)).trans K6.out, (HKEEP.out gb lO6 (by omega)).trans KO6.out, g2, oN, cap2, gA, oS, cS, rfl, rfl, HQ7.out, hq.keep (HKEEP.out gA lS6 (by omega)), ?_⟩
            rcases HNEW.out with e | e <;> omega⟩
          go_wp2_with (at_builtin; refine Go.Lib.wpList_append_run _ rfl _ _ _ _ rfl _ _ rfl rfl _ _ HRUN.out ?_)
          go_roundw
          case rel =>
            refine ⟨i + 1, (q0, q1, q2, q3, q4, q5, q6, q7), b, r, [] ++ rs, by omega, by go_num, rfl, ⟨hstep.out.trans HST2.out⟩, ⟨?_⟩⟩
            by_cases hc1 : cA = 1
            · have hfin := HFIN.out oA 0 (HQ1.out hc1)
              subst hc1
              rw [List.length_append] at hfin
              first | exact hfin | simpa using hfin
            · have hfin := HFIN.out (oA + 1) (cA - 1) HQT.out
              rw [if_neg hc1]
              rw [List.length_append] at hfin
              first | exact hfin | simpa using hfin
          case measure => first | (simp [intOf]; done) | (simp [intOf]; omega)
        | nil =>
          clear hsmall
          have HAT : Aside (HSAt w wr ga gb (.slice (some ⟨gB, oB, none⟩) 0 cB) (.slice (some ⟨gA, oA, none⟩) 0 cA) ⟨a, b, [], []⟩) := ⟨⟨bel, ka, kb, gB, oB, cB, gA, oA, cA, rfl, rfl, qB, qA, hne⟩⟩
          clear bel ka kb qB qA
          go_wp2_with fail
          go_roundw
          case rel => exact ⟨i + 1, a, b, [], [], by omega, by go_num, rfl, ⟨hstep.out.trans rfl⟩, HAT⟩
          case measure => first | (simp [intOf]; done) | (simp [intOf]; omega)
    · obtain rfl : i = 12 := by omega
      have he := HH.out.2 12 (by omega)
      rw [hst.out] at he
      injection he with e1 e2 e3 e4
      subst e1 e2 e3 e4
      have KA : Aside (Blk wr ga 27 (cellsH (endA N K C f m nn))) := ⟨ka⟩
      have KB : Aside (Blk wr gb 27 (cellsH (endB N K C f m nn))) := ⟨kb⟩
      have BEL := Aside.mk bel
      obtain ⟨sa, hsa⟩ : ∃ z, z = (if digV K nn = digV C nn then (if digV C m = digV K m then (5 : Int) else 6) else 4) := ⟨_, rfl⟩
      obtain ⟨sb, hsb⟩ : ∃ z, z = (if digV K nn = digV C nn then (5 : Int) else 6) := ⟨_, rfl⟩
      obtain ⟨bo, hbo⟩ : ∃ z, z = bits .and .i64 f 37 := ⟨_, rfl⟩
      have hbo2 : bits .and .i64 37 f = bo := by
        obtain ⟨-, -, -, h4⟩ := and_facts HP.out.f0 HP.out.f1 (show (0 : Int) ≤ 37 by omega) (by omega)
        rw [hbo, h4]
      have ya0 := KA.out.cell 0
      have ya6 := KA.out.cell 6
      have ya7 := KA.out.cell 7
      have yb0 := KB.out.cell 0
      have yb2 := KB.out.cell 2
      have yb4 := KB.out.cell 4
      have yb6 := KB.out.cell 6
      have yb7 := KB.out.cell 7
      unfold endA handA cellsH at ya0 ya6 ya7
      unfold endB handA cellsH at yb0 yb2 yb4 yb6 yb7
      simp only [List.getElem?_cons_zero, List.getElem?_cons_succ] at ya0 ya6 ya7 yb0 yb2 yb4 yb6 yb7
      rw [← hsa] at ya0
      rw [← hsb] at yb0
      rw [← hbo] at ya7
      rw [hbo2] at yb7
      have la : ga < wr.heap.size := KA.out.lt
      have lb : gb < wr.heap.size := KB.out.lt
      have HSA := Aside.mk hsa
      have HSB := Aside.mk hsb
      have hbo3 := hbo.symm
      have hp1 : (PEER.toList == [112, 101, 101, 114]) = true := by rw [ByteArray.toList_eq]; rfl
      have hp2 : (N.toList == N.toList) = true := beq_self_eq_true _
      clear ka kb bel hsa hsb hbo hbo2 qA qB hsmall hst
      cases hkc : (K.toList == C.toList)
      · obtain ⟨k1, hk1⟩ : ∃ z, z = digV K nn := ⟨_, rfl⟩
        obtain ⟨k2, hk2⟩ : ∃ z, z = digV C nn := ⟨_, rfl⟩
        obtain ⟨k3, hk3⟩ : ∃ z, z = digV K m := ⟨_, rfl⟩
        obtain ⟨k4, hk4⟩ : ∃ z, z = digV C m := ⟨_, rfl⟩
        have HK1 := Aside.mk hk1
        have HK2 := Aside.mk hk2
        have HK3 := Aside.mk hk3
        have HK4 := Aside.mk hk4
        have hsK : K.size ≤ 100 := HP.out.key
        clear hk1 hk2 hk3 hk4
        cases d1 : (k1 != k2)
        · go_wp2_with fail
          refine region_env [(0, true), (1, true), (2, true), (4, true), (5, true), (6, true), (7, true), (3, false), (8, false), (9, true), (10, true), (11, true), (12, true), (13, true), (14, true), (15, true), (16, true), (17, true), (18, true), (19, true)] (fun w' => Below wr.heap.size wr w') 178 rfl (by kernel_rfl) (by kernel_rfl) (fun _ _ d _ _ h => by cases d <;> exact h) ((Below.refl _ _).drew) (fun ops fr HFR HSZ hl => ?_)
          have hl_0 := ops_start hl
          clear hl
          obtain ⟨H0, hl_1⟩ := ops_next 0 1 rfl hl_0
          clear hl_0
          obtain ⟨H1, hl_2⟩ := ops_next 1 2 rfl hl_1
          clear hl_1
          obtain ⟨H2, hl_3⟩ := ops_next 2 3 rfl hl_2
          clear hl_2
          obtain ⟨H3, hl_4⟩ := ops_next 3 4 rfl hl_3
          clear hl_3
          obtain ⟨H4, hl_5⟩ := ops_next 4 5 rfl hl_4
          clear hl_4
          obtain ⟨H5, hl_6⟩ := ops_next 5 6 rfl hl_5
          clear hl_5
          obtain ⟨H6, hl_7⟩ := ops_next 6 7 rfl hl_6
          clear hl_6
          obtain ⟨H7, hl_8⟩ := ops_next 7 8 rfl hl_7
          clear hl_7
          obtain ⟨H8, hl_9⟩ := ops_next 8 9 rfl hl_8
          clear hl_8
          obtain ⟨H9, hl_10⟩ := ops_next 9 10 rfl hl_9
          clear hl_9
          obtain ⟨H10, hl_11⟩ := ops_next 10 11 rfl hl_10
          clear hl_10
          obtain ⟨H11, hl_12⟩ := ops_next 11 12 rfl hl_11
          clear hl_11
          obtain ⟨H12, hl_13⟩ := ops_next 12 13 rfl hl_12
          clear hl_12
          obtain ⟨H13, hl_14⟩ := ops_next 13 14 rfl hl_13
          clear hl_13
          obtain ⟨H14, hl_15⟩ := ops_next 14 15 rfl hl_14
          clear hl_14
          obtain ⟨H15, hl_16⟩ := ops_next 15 16 rfl hl_15
          clear hl_15
          obtain ⟨H16, hl_17⟩ := ops_next 16 17 rfl hl_16
          clear hl_16
          obtain ⟨H17, hl_18⟩ := ops_next 17 18 rfl hl_17
          clear hl_17
          obtain ⟨H18, hl_19⟩ := ops_next 18 19 rfl hl_18
          clear hl_18
          obtain ⟨H19, hl_20⟩ := ops_next 19 20 rfl hl_19
          clear hl_19
          clear hl_20
          have x_4 : ext fr 4 = _ := congrArg (fun a => Act.eval a (.tmp 4)) HFR.out
          conv at x_4 => rhs; simp only [Act.eval, Array.getD_eq_getD_getElem?, List.getElem?_toArray, List.getElem?_cons_succ, List.getElem?_cons_zero, Option.getD_some]
          have x_13 : ext fr 13 = _ := congrArg (fun a => Act.eval a (.tmp 13)) HFR.out
          conv at x_13 => rhs; simp only [Act.eval, Array.getD_eq_getD_getElem?, List.getElem?_toArray, List.getElem?_cons_succ, List.getElem?_cons_zero, Option.getD_some]
          refine env_yes HSZ H0.out ?_ (fun w' hS => ?_) ?_
          rotate_left
          (go_simp
           rfl)
          refine env_yes HSZ H1.out ?_ (fun w' hS => ?_) ?_
          rotate_left
          (go_simp
           rfl)
          refine env_yes HSZ H2.out ?_ (fun w' hS => ?_) ?_
          rotate_left
          (have h := (hS.cell (p := ⟨gb, 4, none⟩) lb).trans yb4
           go_simp
           rfl)
          refine env_yes HSZ H4.out ?_ (fun w' hS => ?_) ?_
          rotate_left
          (go_simp
           rfl)
          refine env_yes HSZ H5.out ?_ (fun w' hS => ?_) ?_
          rotate_left
          (have h := (hS.cell (p := ⟨gb, 2, none⟩) lb).trans yb2
           go_simp
           rfl)
          refine env_yes HSZ H6.out ?_ (fun w' hS => ?_) ?_
          rotate_left
          (go_simp
           rfl)
          refine env_yes HSZ H7.out ?_ (fun w' hS => ?_) ?_
          rotate_left
          (have h := (hS.cell (p := ⟨gb, 4, none⟩) lb).trans yb4
           go_simp
           rfl)
          refine env_call HSZ H3.out ?_ ?_ ?_ ?_
          rotate_left 2
          (go_simp
           first | rfl | (constructor <;> rfl))
          refine (sDigest K nn _ (by omega)).mono ?_
          rintro e w5 ⟨rfl, hb⟩
          rw [← HK1.out]
          have HB5 : Aside (Below wr.heap.size wr w5) := ⟨⟨hb.os, hb.tape, hb.output, hb.size, hb.block⟩⟩
          clear hb
          refine ⟨_, rfl, HB5.out, ?_⟩
          refine env_call HSZ H8.out ?_ ?_ ?_ ?_
          rotate_left 2
          (go_simp
           first | rfl | (constructor <;> rfl))
          refine (sDigest C nn _ (by omega)).mono ?_
          rintro e w6 ⟨rfl, hb⟩
          rw [← HK2.out]
          have HB6 := Aside.mk (below_later HB5.out hb)
          clear hb
          refine ⟨_, rfl, HB6.out, ?_⟩
          refine env_yes HSZ H9.out ?_ (fun w' hS => ?_) ?_
          rotate_left
          (go_simp
           rfl)
          refine env_yes HSZ H10.out ?_ (fun w' hS => ?_) ?_
          rotate_left
          (go_simp
           rfl)
          refine env_off HSZ H11.out H10.out (by first | rfl | go_simp) ?_
          refine env_off HSZ H12.out H10.out (by first | rfl | go_simp) ?_
          refine env_off HSZ H13.out H10.out (by first | rfl | go_simp) ?_
          refine env_off HSZ H14.out H10.out (by first | rfl | go_simp) ?_
          refine env_off HSZ H15.out H10.out (by first | rfl | go_simp) ?_
          refine env_off HSZ H16.out H10.out (by first | rfl | go_simp) ?_
          refine env_off HSZ H17.out H10.out (by first | rfl | go_simp) ?_
          refine env_off HSZ H18.out H10.out (by first | rfl | go_simp) ?_
          refine env_yes HSZ H19.out ?_ (fun w' hS => ?_) ?_
          rotate_left
          (go_simp
           rfl)
          refine env_end ?_
          have hfr := HFR.out
          clear HFR HSZ H0 H1 H2 H3 H4 H5 H6 H7 H8 H9 H10 H11 H12 H13 H14 H15 H16 H17 H18 H19 x_4 x_13
          subst hfr
          simp only [putAll, Act.put, List.setIfInBounds_toArray, List.set_cons_succ, List.set_cons_zero]
          go_wp2_with fail
          go_ret
          exact ⟨rfl, below_later BEL.out HB6.out⟩
        · cases d2 : (k3 != k4)
          all_goals
            go_wp2_with fail
            refine region_env [(0, true), (1, true), (2, true), (4, true), (5, true), (6, true), (7, true), (3, false), (8, false), (9, true), (10, true), (11, true), (12, true), (14, true), (15, true), (16, true), (13, false), (17, false), (18, true), (19, true)] (fun w' => Below wr.heap.size wr w') 178 rfl (by kernel_rfl) (by kernel_rfl) (fun _ _ d _ _ h => by cases d <;> exact h) ((Below.refl _ _).drew) (fun ops fr HFR HSZ hl => ?_)
            have hl_0 := ops_start hl
            clear hl
            obtain ⟨H0, hl_1⟩ := ops_next 0 1 rfl hl_0
            clear hl_0
            obtain ⟨H1, hl_2⟩ := ops_next 1 2 rfl hl_1
            clear hl_1
            obtain ⟨H2, hl_3⟩ := ops_next 2 3 rfl hl_2
            clear hl_2
            obtain ⟨H3, hl_4⟩ := ops_next 3 4 rfl hl_3
            clear hl_3
            obtain ⟨H4, hl_5⟩ := ops_next 4 5 rfl hl_4
            clear hl_4
            obtain ⟨H5, hl_6⟩ := ops_next 5 6 rfl hl_5
            clear hl_5
            obtain ⟨H6, hl_7⟩ := ops_next 6 7 rfl hl_6
            clear hl_6
            obtain ⟨H7, hl_8⟩ := ops_next 7 8 rfl hl_7
            clear hl_7
            obtain ⟨H8, hl_9⟩ := ops_next 8 9 rfl hl_8
            clear hl_8
            obtain ⟨H9, hl_10⟩ := ops_next 9 10 rfl hl_9
            clear hl_9
            obtain ⟨H10, hl_11⟩ := ops_next 10 11 rfl hl_10
            clear hl_10
            obtain ⟨H11, hl_12⟩ := ops_next 11 12 rfl hl_11
            clear hl_11
            obtain ⟨H12, hl_13⟩ := ops_next 12 13 rfl hl_12
            clear hl_12
            obtain ⟨H13, hl_14⟩ := ops_next 13 14 rfl hl_13
            clear hl_13
            obtain ⟨H14, hl_15⟩ := ops_next 14 15 rfl hl_14
            clear hl_14
            obtain ⟨H15, hl_16⟩ := ops_next 15 16 rfl hl_15
            clear hl_15
            obtain ⟨H16, hl_17⟩ := ops_next 16 17 rfl hl_16
            clear hl_16
            obtain ⟨H17, hl_18⟩ := ops_next 17 18 rfl hl_17
            clear hl_17
            obtain ⟨H18, hl_19⟩ := ops_next 18 19 rfl hl_18
            clear hl_18
            obtain ⟨H19, hl_20⟩ := ops_next 19 20 rfl hl_19
            clear hl_19
            clear hl_20
            have x_4 : ext fr 4 = _ := congrArg (fun a => Act.eval a (.tmp 4)) HFR.out
            conv at x_4 => rhs; simp only [Act.eval, Array.getD_eq_getD_getElem?, List.getElem?_toArray, List.getElem?_cons_succ, List.getElem?_cons_zero, Option.getD_some]
            have x_13 : ext fr 13 = _ := congrArg (fun a => Act.eval a (.tmp 13)) HFR.out
            conv at x_13 => rhs; simp only [Act.eval, Array.getD_eq_getD_getElem?, List.getElem?_toArray, List.getElem?_cons_succ, List.getElem?_cons_zero, Option.getD_some]
            have x_6 : ext fr 6 = _ := congrArg (fun a => Act.eval a (.tmp 6)) HFR.out
            conv at x_6 => rhs; simp only [Act.eval, Array.getD_eq_getD_getElem?, List.getElem?_toArray, List.getElem?_cons_succ, List.getElem?_cons_zero, Option.getD_some]
            refine env_yes HSZ H0.out ?_ (fun w' hS => ?_) ?_
            rotate_left
            (go_simp
             rfl)
            refine env_yes HSZ H1.out ?_ (fun w' hS => ?_) ?_
            rotate_left
            (go_simp
             rfl)
            refine env_yes HSZ H2.out ?_ (fun w' hS => ?_) ?_
            rotate_left
            (have h := (hS.cell (p := ⟨gb, 4, none⟩) lb).trans yb4
             go_simp
             rfl)
            refine env_yes HSZ H4.out ?_ (fun w' hS => ?_) ?_
            rotate_left
            (go_simp
             rfl)
            refine env_yes HSZ H5.out ?_ (fun w' hS => ?_) ?_
            rotate_left
            (have h := (hS.cell (p := ⟨gb, 2, none⟩) lb).trans yb2
             go_simp
             rfl)
            refine env_yes HSZ H6.out ?_ (fun w' hS => ?_) ?_
            rotate_left
            (go_simp
             rfl)
            refine env_yes HSZ H7.out ?_ (fun w' hS => ?_) ?_
            rotate_left
            (have h := (hS.cell (p := ⟨gb, 4, none⟩) lb).trans yb4
             go_simp
             rfl)
            refine env_call HSZ H3.out ?_ ?_ ?_ ?_
            rotate_left 2
            (go_simp
             first | rfl | (constructor <;> rfl))
            refine (sDigest K nn _ (by omega)).mono ?_
            rintro e w5 ⟨rfl, hb⟩
            rw [← HK1.out]
            have HB5 : Aside (Below wr.heap.size wr w5) := ⟨⟨hb.os, hb.tape, hb.output, hb.size, hb.block⟩⟩
            clear hb
            refine ⟨_, rfl, HB5.out, ?_⟩
            refine env_call HSZ H8.out ?_ ?_ ?_ ?_
            rotate_left 2
            (go_simp
             first | rfl | (constructor <;> rfl))
            refine (sDigest C nn _ (by omega)).mono ?_
            rintro e w6 ⟨rfl, hb⟩
            rw [← HK2.out]
            have HB6 := Aside.mk (below_later HB5.out hb)
            clear hb
            refine ⟨_, rfl, HB6.out, ?_⟩
            refine env_yes HSZ H9.out ?_ (fun w' hS => ?_) ?_
            rotate_left
            (go_simp
             rfl)
            refine env_yes HSZ H10.out ?_ (fun w' hS => ?_) ?_
            rotate_left
            (go_simp
             rfl)
            refine env_on HSZ H11.out H10.out (by first | rfl | go_simp) ?_ (fun w' hS => ?_) ?_
            rotate_left
            (go_simp
             rfl)
            refine env_on HSZ H12.out H10.out (by first | rfl | go_simp) ?_ (fun w' hS => ?_) ?_
            rotate_left
            (go_simp
             rfl)
            refine env_on HSZ H14.out H10.out (by first | rfl | go_simp) ?_ (fun w' hS => ?_) ?_
            rotate_left
            (go_simp
             rfl)
            refine env_on HSZ H15.out H10.out (by first | rfl | go_simp) ?_ (fun w' hS => ?_) ?_
            rotate_left
            (have h := (hS.cell (p := ⟨gb, 2, none⟩) lb).trans yb2
             go_simp
             rfl)
            refine env_on HSZ H16.out H10.out (by first | rfl | go_simp) ?_ (fun w' hS => ?_) ?_
            rotate_left
            (go_simp
             rfl)
            refine env_call_on HSZ H13.out H10.out (by first | rfl | go_simp) ?_ ?_ ?_ ?_
            rotate_left 2
            (go_simp
             first | rfl | (constructor <;> rfl))
            refine (sDigest K m _ (by omega)).mono ?_
            rintro e w7 ⟨rfl, hb⟩
            rw [← HK3.out]
            have HB7 := Aside.mk (below_later HB6.out hb)
            clear hb
            refine ⟨_, rfl, HB7.out, ?_⟩
            refine env_call_on HSZ H17.out H10.out (by first | rfl | go_simp) ?_ ?_ ?_ ?_
            rotate_left 2
            (go_simp
             first | rfl | (constructor <;> rfl))
            refine (sDigest C m _ (by omega)).mono ?_
            rintro e w8 ⟨rfl, hb⟩
            rw [← HK4.out]
            have HB8 := Aside.mk (below_later HB7.out hb)
            clear hb
            refine ⟨_, rfl, HB8.out, ?_⟩
            refine env_on HSZ H18.out H10.out (by first | rfl | go_simp) ?_ (fun w' hS => ?_) ?_
            rotate_left
            (go_simp
             rfl)
            refine env_yes HSZ H19.out ?_ (fun w' hS => ?_) ?_
            rotate_left
            (go_simp
             rfl)
            refine env_end ?_
            have hfr := HFR.out
            clear HFR HSZ H0 H1 H2 H3 H4 H5 H6 H7 H8 H9 H10 H11 H12 H13 H14 H15 H16 H17 H18 H19 x_4 x_13 x_6
            subst hfr
            simp only [putAll, Act.put, List.setIfInBounds_toArray, List.set_cons_succ, List.set_cons_zero]
          · go_wp2_with fail
            go_ret
            exact ⟨rfl, below_later BEL.out HB8.out⟩
          · have hne12 : ¬ digV K nn = digV C nn := by rw [← HK1.out, ← HK2.out]; simpa using d1
            have s4 : sa = 4 := by rw [HSA.out, if_neg hne12]
            have s6 : sb = 6 := by rw [HSB.out, if_neg hne12]
            subst s4 s6
            have za0 := (HB8.out.cell (p := ⟨ga, 0, none⟩) la).trans ya0
            have zb0 := (HB8.out.cell (p := ⟨gb, 0, none⟩) lb).trans yb0
            go_wp2_with fail
            go_ret
            exact ⟨rfl, below_later BEL.out HB8.out⟩
      · have hKC : K = C := ext_list (by simpa using hkc)
        have s5 : sa = 5 := by rw [HSA.out, hKC]; simp
        have s6 : sb = 5 := by rw [HSB.out, hKC]; simp
        subst s5 s6
        go_wp2_with fail
        go_ret
        exact ⟨rfl, BEL.out⟩
end Go.Proofs.YtlopbheahedofaaDoor.Fn
