/- The reference's way of taking a packet off. Conditions: those of each theorem. -/
import Derived.Test.YtlopbheahedofaaLink8
set_option linter.unusedVariables false
namespace Go.Proofs.Ytlopbheahedofaa.Fn
open Go Go.RowKit Go.Proofs.Ytlopbheahedofaa.Lib Go.Proofs.Ytlopbheahedofaa.Plan
attribute [local go_sem] look_tmp look_const look_func look_global lookT_nil lookT_hit lookT_miss

theorem own_nil (w : World) (base : Nat) (hb : base ≤ w.heap.size) (e k : Nat) : (w.alloc (.cells #[] e)).ownsRow base e k (.slice (some ⟨w.heap.size, 0, none⟩) 0 0) 0 [] :=
  ⟨by simp, Or.inr ⟨w.heap.size, 0, #[], rfl, hb, heap_alloc_new w _, Nat.le_refl _, by unfold maxLen; omega, by simp, by simp⟩⟩
theorem own_le {w : World} {base base2 e k n : Nat} {v : Value} {xs : List Value} (h : w.ownsRow base e k v n xs) (hb : base2 ≤ base) : w.ownsRow base2 e k v n xs := by
  refine ⟨h.1, h.2.imp id ?_⟩
  rintro ⟨g, c, cur, h0, h1, h2⟩
  exact ⟨g, c, cur, h0, by omega, h2⟩
set_option maxRecDepth 100000 in
set_option maxHeartbeats 8000000 in
theorem sOut (base g win i : Nat) (s : Lk) (w : World) (h : LkAt w base g 57 win s) (hi : i < s.way.length) (hl : s.way.length ≤ 100) :
    Calls Try.prog 41 #[.pointer (some ⟨g, 0, none⟩), .int .i64 i] w fun e w' => e = .returned (.agg #[.bool (wayAt i s).1, .string (wayAt i s).2]) ∧ LkAt w' base g 57 win (outK i s) ∧ Below base w w' := by
  obtain ⟨vg, vt, vw, hv⟩ := h
  obtain ⟨B, cB, rfl, hcB, -⟩ := own_shape hv.ow
  obtain ⟨b, rfl, hbb, hbl, hcell, hfz⟩ := own_addr hv.ow (by omega)
  obtain ⟨p1, p2, hp⟩ : ∃ p1 p2, wayAt i s = (p1, p2) := ⟨_, _, rfl⟩
  have hp' : s.way[i] = (p1, p2) := by rw [← wayAt_eq hi]; exact hp
  have e0 := hcell (i * 2) (.bool p1) (by rw [show i * 2 = i * 2 + 0 by omega, cpk_at s.way i 0 hi (by omega), hp']; rfl)
  have e1 := hcell (i * 2 + 1) (.string p2) (by rw [cpk_at s.way i 1 hi (by omega), hp']; rfl)
  rw [hp]
  have lg : g < w.heap.size := hv.blk.lt
  have y5 := hv.blk.cell 5
  simp only [List.getElem?_cons_zero, List.getElem?_cons_succ] at y5
  have HW := Aside.mk hv
  obtain ⟨n, hn⟩ : ∃ n, n = s.way.length := ⟨_, rfl⟩
  have HN := Aside.mk hn
  rw [← hn] at hi hl hcB y5
  have hii : (i : Int) < n := by omega
  clear hv hcell hfz hp hp' hn
  go_enter Try.func41, Try.ntmps41
  go_wp2_with fail
  obtain ⟨q0, hq0⟩ : ∃ x, x = w.heap.size := ⟨_, rfl⟩
  obtain ⟨w1, hw1⟩ : ∃ x, x = (w.alloc (.cells #[.bool false, .string ⟨#[]⟩] 63)).alloc (.cells #[.bool p1, .string p2] 63) := ⟨_, rfl⟩
  rw [← hw1, ← hq0]
  have hsz : w1.heap.size = q0 + 2 := by rw [hw1, hq0]; simp
  have hb01 : Below w.heap.size w w1 := by rw [hw1]; exact ((Below.refl _ _).alloc (Nat.le_refl _) _).alloc (by simp) _
  have K0 : Aside (Blk w1 q0 63 [.bool false, .string ⟨#[]⟩]) := ⟨by rw [hw1, hq0]; exact (Blk.new w 63 [.bool false, .string ⟨#[]⟩]).alloc _⟩
  have K1 : Aside (Blk w1 (q0 + 1) 63 [.bool p1, .string p2]) := ⟨by rw [hw1, hq0]; have h := Blk.new (w.alloc (.cells #[.bool false, .string ⟨#[]⟩] 63)) 63 [.bool p1, .string p2]; simpa using h⟩
  have HV := Aside.mk (HW.out.below hb01)
  have HB01 := Aside.mk hb01
  have HQ0 := Aside.mk hq0
  clear e0 e1 y5 lg hw1 hb01 hq0
  have y5 : w1.cell? ⟨g, 5, none⟩ = some (.slice (some ⟨b, 0, none⟩) n cB) := by have h := HV.out.blk.cell 5; rw [HN.out]; exact h
  have lg1 : g < w1.heap.size := HV.out.blk.lt
  obtain ⟨j0, hj0, jz0, jz1, jz2⟩ := info_parts infoPkt
  have OWN : w1.ownsRow base 63 2 (.slice (some ⟨b, 0, none⟩) n cB) n (cpk s.way) := by have := HV.out.ow; rwa [← HN.out] at this
  have hbase1 : base ≤ w1.heap.size := HV.out.lt
  have hb1 : b < w1.heap.size := (own_lt OWN (g := b) rfl).2
  have hsl : s.way.length = n := HN.out.symm
  -- the first append
  have hc0 : ∀ t u, (cpk (s.way.take i))[t]? = some u → (w1.drew.alloc (.cells #[] 63)).cell? ((⟨b, 0, none⟩ : Addr).add t) = some u := by
    intro t u hu
    rw [add_plain]
    rw [← cpk_take _ _ (by omega)] at hu
    have hlt := (List.getElem?_eq_some_iff.1 hu).1
    have h2 : (cpk s.way)[t]? = some u := by rw [List.getElem?_take] at hu; split at hu; exact hu; cases hu
    have h3 := OWN.cells (g := b) rfl t u h2
    rw [add_plain] at h3
    exact ((Below.refl w1.heap.size w1.drew).alloc (Nat.le_refl _) (.cells #[] 63)).cell (p := ⟨b, t, none⟩) hb1 |>.trans h3
  obtain ⟨v8, w8, hrun8, hown8, hgr8, -, hblk8⟩ := run_append_own_at (P := Try.prog) (ty := 28) (w := w1.drew.alloc (.cells #[] 63)) w1.heap.size 28 63 j0 _ 2 24 Try.underlying28 hj0 jz0 jz1 jz2 rfl (by decide) (.slice (some ⟨w1.heap.size, 0, none⟩) 0 0) 0 [] (own_nil w1.drew w1.heap.size (Nat.le_refl _) _ 2) ⟨b, 0, none⟩ i cB (cpk (s.way.take i)) (by rw [cpk_len, List.length_take, Nat.min_eq_left (by omega)]) hc0 (cpk_one _) (by unfold maxLen; omega) (by omega) (by simp)
  rw [Nat.zero_add] at hown8
  rw [List.nil_append] at hown8
  obtain ⟨A8, c8, rfl, hc8, -⟩ := own_shape hown8
  have hb8 : Below w1.heap.size w1 w8 := (((Below.refl w1.heap.size w1).drew).alloc (Nat.le_refl _) _).trans (below_row hgr8 (by simp) (fun k hk => by injection hk with hk; exact Nat.le_of_eq hk))
  -- the second
  obtain ⟨a2, ha2, hc2⟩ : ∃ a2 : Addr, (if cB = i + 1 then some (⟨b, 0, none⟩ : Addr) else some ⟨b, (i + 1) * 2, none⟩) = some a2 ∧ ∀ t u, (cpk (s.way.drop (i + 1)))[t]? = some u → w8.cell? (a2.add t) = some u := by
    by_cases h : cB = i + 1
    · refine ⟨⟨b, 0, none⟩, by rw [if_pos h], fun t u hu => ?_⟩
      rw [List.drop_of_length_le (by omega)] at hu
      cases hu
    · refine ⟨⟨b, (i + 1) * 2, none⟩, by rw [if_neg h], fun t u hu => ?_⟩
      rw [← cpk_drop _ _ (by omega), List.getElem?_drop] at hu
      have h3 := OWN.cells (g := b) rfl _ u hu
      rw [add_plain] at h3
      rw [Addr.add_lit]
      exact (hb8.cell (p := ⟨b, (i + 1) * 2 + t, none⟩) hb1).trans h3
  obtain ⟨v16, w16, hrun16, hown16, hgr16, -, hblk16⟩ := run_append_own_at (P := Try.prog) (ty := 28) (w := w8) w1.heap.size 28 63 j0 _ 2 24 Try.underlying28 hj0 jz0 jz1 jz2 rfl (by decide) _ _ _ hown8 a2 (n - (i + 1)) (cB - (i + 1)) (cpk (s.way.drop (i + 1))) (by rw [cpk_len, List.length_drop]; omega) hc2 (cpk_one _) (by unfold maxLen; omega) (by omega) hb8.size
  rw [← cpk_app, ← List.eraseIdx_eq_take_drop_succ, show i + (n - (i + 1)) = n - 1 by omega] at hown16
  obtain ⟨A16, c16, rfl, hc16, -⟩ := own_shape hown16
  have hb16 : Below w1.heap.size w1 w16 := hb8.trans (below_row hgr16 hb8.size (fun k hk => (own_lt hown8 (g := k) hk).1))
  have HEX : Aside (∃ q, (Value.slice A16 (n - 1) c16).ownBlock = some q) := ⟨by
    rcases hblk16 with e | e
    · rcases hblk8 with e8 | e8
      · exact ⟨_, e.trans e8⟩
      · exact ⟨_, e.trans e8⟩
    · exact ⟨_, e⟩⟩
  have HRUN8 := Aside.mk hrun8
  have HRUN16 := Aside.mk hrun16
  have HB8 := Aside.mk hb8
  have HB16 := Aside.mk hb16
  have HO16 := Aside.mk hown16
  have HA := Aside.mk ha2
  have HBK : Aside (Blk w16 g 57 [.int .i64 win, vg, .int .i64 s.acked, .int .i64 s.packed, vt, .slice (some ⟨b, 0, none⟩) n cB]) := ⟨by have h := HV.out.blk.below hb16; rw [HN.out]; exact h⟩
  have h1i : (i : Int) + 1 ≤ n := by omega
  have h1n : i + 1 ≤ n := by omega
  have hin : i ≤ n := by omega
  have hic : i ≤ cB := by omega
  have hic2 : i + 1 ≤ cB := by omega
  have hwr : IntKind.i64.wrap ((i : Int) + 1) = (i : Int) + 1 := by rw [IntKind.wrap_i64]; omega
  clear hj0 jz0 jz1 jz2 OWN hc0 hrun8 hown8 hgr8 hblk8 ha2 hc2 hrun16 hown16 hgr16 hblk16 hb8 hb16
  refine region_env2 [(0, true), (2, true), (3, true), (4, true), (5, true), (6, true), (7, true), (9, true), (10, true), (11, true), (12, true), (13, true), (14, true), (15, true), (1, false), (8, false), (16, false), (17, true), (18, true), (19, false)] (fun w' => Below w1.heap.size w1 w') (fun w' => But (fun c => c = g) w1 w') 19 33 rfl (by kernel_rfl) (by kernel_rfl) (fun _ _ d _ _ h => by cases d <;> exact h) (fun w' h => But.below h) ((Below.refl _ _).drew) (fun ops fr HFR HSZ HWT hl => ?_)
  have hl_0 := ops_start hl
  clear hl
  obtain ⟨H0, hl_1⟩ := ops_next 0 1 rfl hl_0
  clear hl_0
  obtain ⟨H1, hl_2⟩ := ops_next 1 2 rfl hl_1
  clear hl_1
  obtain ⟨H2, hl_3⟩ := ops_next 2 3 rfl hl_2
  clear hl_2
  obtain ⟨H3, hl_4⟩ := ops_next 3 4 rfl hl_3
  clear hl_3
  obtain ⟨H4, hl_5⟩ := ops_next 4 5 rfl hl_4
  clear hl_4
  obtain ⟨H5, hl_6⟩ := ops_next 5 6 rfl hl_5
  clear hl_5
  obtain ⟨H6, hl_7⟩ := ops_next 6 7 rfl hl_6
  clear hl_6
  obtain ⟨H7, hl_8⟩ := ops_next 7 8 rfl hl_7
  clear hl_7
  obtain ⟨H8, hl_9⟩ := ops_next 8 9 rfl hl_8
  clear hl_8
  obtain ⟨H9, hl_10⟩ := ops_next 9 10 rfl hl_9
  clear hl_9
  obtain ⟨H10, hl_11⟩ := ops_next 10 11 rfl hl_10
  clear hl_10
  obtain ⟨H11, hl_12⟩ := ops_next 11 12 rfl hl_11
  clear hl_11
  obtain ⟨H12, hl_13⟩ := ops_next 12 13 rfl hl_12
  clear hl_12
  obtain ⟨H13, hl_14⟩ := ops_next 13 14 rfl hl_13
  clear hl_13
  obtain ⟨H14, hl_15⟩ := ops_next 14 15 rfl hl_14
  clear hl_14
  obtain ⟨H15, hl_16⟩ := ops_next 15 16 rfl hl_15
  clear hl_15
  obtain ⟨H16, hl_17⟩ := ops_next 16 17 rfl hl_16
  clear hl_16
  obtain ⟨H17, hl_18⟩ := ops_next 17 18 rfl hl_17
  clear hl_17
  obtain ⟨H18, hl_19⟩ := ops_next 18 19 rfl hl_18
  clear hl_18
  obtain ⟨H19, hl_20⟩ := ops_next 19 20 rfl hl_19
  clear hl_19
  clear hl_20
  have x_0 : ext fr 0 = _ := congrArg (fun a => Act.eval a (.tmp 0)) HFR.out
  conv at x_0 => rhs; simp only [Act.eval, Array.getD_eq_getD_getElem?, List.getElem?_toArray, List.getElem?_cons_succ, List.getElem?_cons_zero, Option.getD_some]
  have x_1 : ext fr 1 = _ := congrArg (fun a => Act.eval a (.tmp 1)) HFR.out
  conv at x_1 => rhs; simp only [Act.eval, Array.getD_eq_getD_getElem?, List.getElem?_toArray, List.getElem?_cons_succ, List.getElem?_cons_zero, Option.getD_some]
  refine env2_yes HSZ (by decide) H0.out ?_ (fun w' hS => ?_) ?_
  rotate_left
  (go_simp
   rfl)
  refine env2_yes HSZ (by decide) H2.out ?_ (fun w' hS => ?_) ?_
  rotate_left
  (go_simp
   rfl)
  refine env2_yes HSZ (by decide) H3.out ?_ (fun w' hS => ?_) ?_
  rotate_left
  (go_simp
   rfl)
  refine env2_yes HSZ (by decide) H4.out ?_ (fun w' hS => ?_) ?_
  rotate_left
  (go_simp
   rfl)
  refine env2_early HSZ (by decide) HWT (by kernel_rfl) H5.out ?_ (fun w' hS => ?_) ?_
  rotate_left
  (have h := (hS.cell (p := ⟨g, 5, none⟩) lg1).trans y5
   go_simp
   rfl)
  refine env2_yes HSZ (by decide) H6.out ?_ (fun w' hS => ?_) ?_
  rotate_left
  (go_simp
   rfl)
  refine env2_yes HSZ (by decide) H7.out ?_ (fun w' hS => ?_) ?_
  rotate_left
  (go_simp
   rfl)
  refine env2_yes HSZ (by decide) H9.out ?_ (fun w' hS => ?_) ?_
  rotate_left
  (go_simp
   rfl)
  refine env2_yes HSZ (by decide) H10.out ?_ (fun w' hS => ?_) ?_
  rotate_left
  (go_simp
   rfl)
  refine env2_yes HSZ (by decide) H11.out ?_ (fun w' hS => ?_) ?_
  rotate_left
  (go_simp
   rfl)
  refine env2_early HSZ (by decide) HWT (by kernel_rfl) H12.out ?_ (fun w' hS => ?_) ?_
  rotate_left
  (have h := (hS.cell (p := ⟨g, 5, none⟩) lg1).trans y5
   go_simp
   rfl)
  refine env2_yes HSZ (by decide) H13.out ?_ (fun w' hS => ?_) ?_
  rotate_left
  (go_simp
   rfl)
  refine env2_yes HSZ (by decide) H14.out ?_ (fun w' hS => ?_) ?_
  rotate_left
  (go_simp
   rfl)
  refine env2_yes HSZ (by decide) H15.out ?_ (fun w' hS => ?_) ?_
  rotate_left
  (go_simp
   rfl)
  refine env2_run HSZ H1.out ?_ ?_ ?_ ?_ ?_
  rotate_left 2
  (go_simp; constructor <;> rfl)
  exact ((Below.refl _ _).drew).alloc (Nat.le_refl _) _
  refine env2_run HSZ H8.out ?_ ?_ ?_ ?_ ?_
  rotate_left 2
  rotate_right 2
  exact (.slice A8 i c8)
  exact w8
  exact exec_app (v := .slice (some ⟨w1.heap.size, 0, none⟩) 0 0) (v2 := .slice (some ⟨b, 0, none⟩) i cB) _ _ (by go_simp) (by go_simp) HRUN8.out
  exact HB8.out
  refine env2_run HSZ H16.out ?_ ?_ ?_ ?_ ?_
  rotate_left 2
  rotate_right 2
  exact (.slice A16 (n - 1) c16)
  exact w16
  exact exec_app (v := .slice A8 i c8) (v2 := .slice (some a2) (n - (i + 1)) (cB - (i + 1))) _ _ (by go_simp) (by rw [← HA.out]; go_simp) HRUN16.out
  exact HB16.out
  refine env2_yes HSZ (by decide) H17.out ?_ (fun w' hS => ?_) ?_
  rotate_left
  (go_simp
   rfl)
  refine env2_yes HSZ (by decide) H18.out ?_ (fun w' hS => ?_) ?_
  rotate_left
  (go_simp
   rfl)
  refine env2_store HSZ H19.out ?_ ?_ ?_ ?_
  rotate_left 1
  have c5 : w16.cell? ⟨g, 5, none⟩ = some (.slice (some ⟨b, 0, none⟩) n cB) := HBK.out.cell 5
  have f5 := HBK.out.free 5
  (go_simp; rfl)
  exact (show But (fun c => c = g) w1 w16 from But.below HB16.out).set (p := ⟨g, 5, none⟩) rfl _
  refine env2_end ?_
  have hfr := HFR.out
  clear HFR HSZ HWT H0 H1 H2 H3 H4 H5 H6 H7 H8 H9 H10 H11 H12 H13 H14 H15 H16 H17 H18 H19 x_0 x_1
  subst hfr
  simp only [putAll, Act.put, List.setIfInBounds_toArray, List.set_cons_succ, List.set_cons_zero]
  have lgq : g < q0 := by have := HW.out.blk.lt; have := HQ0.out; omega
  have k10 : w16.cell? ⟨q0 + 1, 0, none⟩ = some (.bool p1) := (HB16.out.cell (p := ⟨q0 + 1, 0, none⟩) (show q0 + 1 < w1.heap.size by omega)).trans (K1.out.cell 0)
  have k11 : w16.cell? ⟨q0 + 1, 1, none⟩ = some (.string p2) := (HB16.out.cell (p := ⟨q0 + 1, 1, none⟩) (show q0 + 1 < w1.heap.size by omega)).trans (K1.out.cell 1)
  have K0B := K0.out.below HB16.out
  have f00 := K0B.free 0
  have f01 := K0B.free 1
  clear K0B
  have k00 : w16.cell? ⟨q0, 0, none⟩ = some (.bool false) := (HB16.out.cell (p := ⟨q0, 0, none⟩) (show q0 < w1.heap.size by omega)).trans (K0.out.cell 0)
  have k01 : w16.cell? ⟨q0, 1, none⟩ = some (.string ⟨#[]⟩) := (HB16.out.cell (p := ⟨q0, 1, none⟩) (show q0 < w1.heap.size by omega)).trans (K0.out.cell 1)
  have HK0 : Aside (Blk (((w16.setCell ⟨g, 5, none⟩ (.slice A16 (n - 1) c16)).setCell ⟨q0, 0, none⟩ (.bool p1)).setCell ⟨q0, 1, none⟩ (.string p2)) q0 63 [.bool p1, .string p2]) := ⟨by
    have h := ((K0.out.below HB16.out).far (p := ⟨g, 5, none⟩) (show q0 ≠ g by omega) (.slice A16 (n - 1) c16)).set 0 (.bool p1)
    exact h.set 1 (.string p2)⟩
  have hgA : Aside (∀ q, (Value.slice A16 (n - 1) c16).ownBlock = some q → w1.heap.size ≤ q) := ⟨fun q hq => (own_lt HO16.out hq).1⟩
  have hq0s : q0 < w16.heap.size := by have := HB16.out.size; omega
  have hheap : Aside (∀ b', b' ≠ g → b' ≠ q0 → (((w16.setCell ⟨g, 5, none⟩ (.slice A16 (n - 1) c16)).setCell ⟨q0, 0, none⟩ (.bool p1)).setCell ⟨q0, 1, none⟩ (.string p2)).heap[b']? = w16.heap[b']?) := ⟨fun b' h1 h2 => by rw [heap_far h2, heap_far h2, heap_far h1]⟩
  have HFIN : Aside (LkAt (((w16.setCell ⟨g, 5, none⟩ (.slice A16 (n - 1) c16)).setCell ⟨q0, 0, none⟩ (.bool p1)).setCell ⟨q0, 1, none⟩ (.string p2)) base g 57 win (outK i s)) := ⟨by
    have hlen : (s.way.eraseIdx i).length = n - 1 := by rw [List.length_eraseIdx, if_pos (by omega), hsl]
    refine ⟨vg, vt, .slice A16 (n - 1) c16, HW.out.setWay (s.way.eraseIdx i) ?_ ?_ ?_ (Or.inr ?_)⟩
    · have h := (HBK.out.set 5 (.slice A16 (n - 1) c16))
      have h2 := (h.far (p := ⟨q0, 0, none⟩) (show g ≠ q0 by omega) (.bool p1)).far (p := ⟨q0, 1, none⟩) (show g ≠ q0 by omega) (.string p2)
      exact h2
    · rw [hlen]
      refine ownsRow_of_block (own_le HO16.out hbase1) (fun q hq => hheap.out q (fun e => ?_) (fun e => ?_))
      · have := hgA.out q hq; omega
      · have := hgA.out q hq; omega
    · intro b' hb' hg' hr'
      rw [hheap.out b' hg' (by have := HQ0.out; omega)]
      have h1 := HB01.out.size
      exact (HB16.out.block b' (by omega)).trans (HB01.out.block b' hb')
    · obtain ⟨q, hq⟩ := HEX.out
      have h1 := HB01.out.size
      have h2 := hgA.out q hq
      exact ⟨q, hq, by omega⟩⟩
  have HBEL : Aside (Below base w (((w16.setCell ⟨g, 5, none⟩ (.slice A16 (n - 1) c16)).setCell ⟨q0, 0, none⟩ (.bool p1)).setCell ⟨q0, 1, none⟩ (.string p2))) := ⟨by
    have hb0 : base ≤ q0 := by have := HW.out.lt; have := HQ0.out; omega
    have h1 : Below base w w16 := (HB01.out.mono HW.out.lt).trans (HB16.out.mono hbase1)
    exact ((h1.setCell HW.out.hb _).setCell hb0 _).setCell hb0 _⟩
  go_wp2_with fail
  all_goals exact bodyPost_ret (res_c rfl _ _ q0 63 [.bool p1, .string p2] _ rfl HK0.out Try.underlying63 rfl (by kernel_rfl)) rfl ⟨rfl, HFIN.out, HBEL.out⟩
end Go.Proofs.Ytlopbheahedofaa.Fn
