/- Walks of the links' put, both sides. Conditions: those of each theorem. -/
import Derived.Test.YtlopbheahedofaaLink1
set_option linter.unusedVariables false
namespace Go.Proofs.Ytlopbheahedofaa.Fn
open Go Go.RowKit Go.Proofs.Ytlopbheahedofaa.Lib Go.Proofs.Ytlopbheahedofaa.Plan
attribute [local go_sem] look_tmp look_const look_func look_global lookT_nil lookT_hit lookT_miss

set_option maxRecDepth 100000 in
set_option maxHeartbeats 8000000 in
theorem iPut (base g win : Nat) (s : Lk) (p : Bool × ByteArray) (w : World) (h : LkAt w base g 61 win s) (hl : s.way.length ≤ 100) :
    Calls Try.prog 44 #[.pointer (some ⟨g, 0, none⟩), .agg #[.bool p.1, .string p.2]] w fun e w' => e = .returned (.tuple #[]) ∧ LkAt w' base g 61 win (putK p s) ∧ Below base w w' := by
  obtain ⟨p1, p2⟩ := p
  obtain ⟨vg, vt, vw, hv⟩ := h
  obtain ⟨A, cap, rfl, hcap, -⟩ := own_shape hv.ow
  obtain ⟨j0, hj0, jz0, jz1, jz2⟩ := info_parts infoPkt
  have HJ := Aside.mk hj0
  have lg : g < w.heap.size := hv.blk.lt
  have HW := Aside.mk hv
  have HN : Aside (putK (p1, p2) s = if s.way.length < 100 then { s with way := s.way ++ [(p1, p2)] } else s) := ⟨rfl⟩
  generalize putK (p1, p2) s = s2 at HN ⊢
  obtain ⟨n, hn⟩ : ∃ n, n = s.way.length := ⟨_, rfl⟩
  have HNN := Aside.mk hn
  rw [← hn] at hl hcap HN
  have y5 : w.cell? ⟨g, 5, none⟩ = some (.slice A n cap) := by have h := hv.blk.cell 5; rw [HNN.out]; exact h
  have lw : ∀ b, (Value.slice A s.way.length cap).ownBlock = some b → b < w.heap.size := fun b hb => (own_lt hv.ow hb).2
  rw [← hn] at lw
  have LW := Aside.mk lw
  clear hj0 hv hn lw
  show Calls Try.prog 44 #[.pointer (some ⟨g, 0, none⟩), .agg #[.bool p1, .string p2]] w _
  go_enter Try.func44, Try.ntmps44
  by_cases hlt : (n : Int) < 100
  rotate_left
  · have E : Aside (s2 = s) := ⟨by rw [HN.out, if_neg (by omega)]⟩
    clear HN
    go_wp2_with fail
    go_end0
    have bel : Below w.heap.size w (w.alloc (.cells #[.bool p1, .string p2] 63)) := by go_grown
    exact ⟨rfl, by rw [E.out]; exact ⟨_, _, _, HW.out.below bel⟩, bel.mono HW.out.lt⟩
  have E : Aside (s2 = { s with way := s.way ++ [(p1, p2)] }) := ⟨by rw [HN.out, if_pos (by omega)]⟩
  clear HN
  go_wp2_with fail
  have bel : Below w.heap.size w (w.alloc (.cells #[.bool p1, .string p2] 63)) := by go_grown
  have HV := Aside.mk (HW.out.below bel)
  have K1 := Aside.mk (Blk.new w 63 [.bool p1, .string p2])
  have BB : Aside (Below base w (w.alloc (.cells #[.bool p1, .string p2] 63))) := ⟨bel.mono HW.out.lt⟩
  obtain ⟨w1, hw1⟩ : ∃ x, x = w.alloc (.cells #[.bool p1, .string p2] 63) := ⟨_, rfl⟩
  obtain ⟨gp, hgp⟩ : ∃ x, x = w.heap.size := ⟨_, rfl⟩
  have hsz : w1.heap.size = gp + 1 := by rw [hw1, hgp]; simp
  rw [← hw1] at HV K1 BB ⊢
  rw [← hgp] at K1 lg LW ⊢
  have y5' : w1.cell? ⟨g, 5, none⟩ = some (.slice A n cap) := by have h := HV.out.blk.cell 5; rw [HNN.out]; exact h
  have p0 : w1.cell? ⟨gp, 0, none⟩ = some (.bool p1) := K1.out.cell 0
  have p1' : w1.cell? ⟨gp, 1, none⟩ = some (.string p2) := K1.out.cell 1
  have lp : gp < w1.heap.size := K1.out.lt
  have lg1 : g < w1.heap.size := HV.out.blk.lt
  have hGp : Aside (¬ (gp = g ∨ (Value.slice A n cap).ownBlock = some gp)) := ⟨fun h => by rcases h with h | h; omega; have := LW.out _ h; omega⟩
  have hgw : Aside ((Value.slice A n cap).ownBlock ≠ some g) := ⟨fun h => HV.out.gw g (by rw [← HNN.out]; exact h) rfl⟩
  have OWN : w1.ownsRow base 63 2 (.slice A n cap) n (cpk s.way) := by have := HV.out.ow; rwa [← HNN.out] at this
  obtain ⟨v8, w8, hrun, hown, hgr, -, hblk⟩ := run_append_own_at (P := Try.prog) (ty := 28) (w := (w1.alloc (.cells #[.bool p1, .string p2] 63)).drew) base 28 63 j0 _ 2 24 Try.underlying28 HJ.out jz0 jz1 jz2 rfl (by decide) (.slice A n cap) n (cpk s.way) (OWN.alloc _).drew ⟨w1.heap.size, 0, none⟩ 1 1 [.bool p1, .string p2] rfl (cells_at w1.heap.size _ w1 63 rfl) (fun u hu => by simp at hu; rcases hu with rfl | rfl <;> rfl) (by unfold maxLen; omega) (by omega) (by have := HV.out.lt; change base ≤ (w1.alloc _).heap.size; simp; omega)
  obtain ⟨A8, cap8, rfl, hc8, -⟩ := own_shape hown
  have hv8 : Aside ((Value.slice A8 (n + 1) cap8).ownBlock ≠ some g) := ⟨fun h => by rcases hblk with e | e; exact hgw.out (by rw [← e]; exact h); rw [e] at h; injection h with h; change (w1.alloc _).heap.size = g at h; simp at h; omega⟩
  have HNEW : Aside ((Value.slice A8 (n + 1) cap8).ownBlock = (Value.slice A s.way.length cap).ownBlock ∨ ∃ b, (Value.slice A8 (n + 1) cap8).ownBlock = some b ∧ w1.heap.size ≤ b) := ⟨hblk.imp (fun e => by rw [← HNN.out]; exact e) (fun e => ⟨_, e, by change w1.heap.size ≤ (w1.alloc _).heap.size; simp⟩)⟩
  have hbk : Blk w8 g 61 [.int .i64 win, vg, .int .i64 s.acked, .int .i64 s.packed, vt, .slice A n cap] := by
    have h := HV.out.blk
    rw [← HNN.out] at h
    exact ((h.alloc _).drew).grown hgr (fun e => hgw.out e.symm)
  have HBK := Aside.mk hbk
  have HRUN := Aside.mk hrun
  have HOWN := Aside.mk hown
  have HGR := Aside.mk hgr
  have hS1 : But (fun c => c = g ∨ (Value.slice A n cap).ownBlock = some c) w1 w8 := (But.below (((Below.refl _ _).alloc (Nat.le_refl _) _).drew)).trans ⟨hgr.os, hgr.tape, hgr.output, hgr.size, fun k hk hn => hgr.block k hk (fun e => hn (Or.inr e.symm))⟩
  have HS1 := Aside.mk hS1
  clear bel y5 hw1 hgp hbk hrun hown hgr hblk hS1 OWN
  refine region_env2 [(0, true), (1, true), (2, true), (3, true), (4, true), (5, true), (6, false), (7, false), (8, true), (9, true), (10, false)] (fun w' => Below w1.heap.size w1 w') (fun w' => But (fun c => c = g ∨ (Value.slice A n cap).ownBlock = some c) w1 w') 7 20 rfl (by kernel_rfl) (by kernel_rfl) (fun _ _ d _ _ h => by cases d <;> exact h) (fun w' h => But.below h) ((Below.refl _ _).drew) (fun ops fr HFR HSZ HWT hl => ?_)
  have hl_0 := ops_start hl
  clear hl
  obtain ⟨H0, hl_1⟩ := ops_next 0 1 rfl hl_0
  clear hl_0
  obtain ⟨H1, hl_2⟩ := ops_next 1 2 rfl hl_1
  clear hl_1
  obtain ⟨H2, hl_3⟩ := ops_next 2 3 rfl hl_2
  clear hl_2
  obtain ⟨H3, hl_4⟩ := ops_next 3 4 rfl hl_3
  clear hl_3
  obtain ⟨H4, hl_5⟩ := ops_next 4 5 rfl hl_4
  clear hl_4
  obtain ⟨H5, hl_6⟩ := ops_next 5 6 rfl hl_5
  clear hl_5
  obtain ⟨H6, hl_7⟩ := ops_next 6 7 rfl hl_6
  clear hl_6
  obtain ⟨H7, hl_8⟩ := ops_next 7 8 rfl hl_7
  clear hl_7
  obtain ⟨H8, hl_9⟩ := ops_next 8 9 rfl hl_8
  clear hl_8
  obtain ⟨H9, hl_10⟩ := ops_next 9 10 rfl hl_9
  clear hl_9
  obtain ⟨H10, hl_11⟩ := ops_next 10 11 rfl hl_10
  clear hl_10
  clear hl_11
  have x_0 : ext fr 0 = _ := congrArg (fun a => Act.eval a (.tmp 0)) HFR.out
  conv at x_0 => rhs; simp only [Act.eval, Array.getD_eq_getD_getElem?, List.getElem?_toArray, List.getElem?_cons_succ, List.getElem?_cons_zero, Option.getD_some]
  have x_3 : ext fr 3 = _ := congrArg (fun a => Act.eval a (.tmp 3)) HFR.out
  conv at x_3 => rhs; simp only [Act.eval, Array.getD_eq_getD_getElem?, List.getElem?_toArray, List.getElem?_cons_succ, List.getElem?_cons_zero, Option.getD_some]
  refine env2_yes HSZ (by decide) H0.out ?_ (fun w' hS => ?_) ?_
  rotate_left
  (go_simp
   rfl)
  refine env2_yes HSZ (by decide) H1.out ?_ (fun w' hS => ?_) ?_
  rotate_left
  (go_simp
   rfl)
  refine env2_yes HSZ (by decide) H2.out ?_ (fun w' hS => ?_) ?_
  rotate_left
  (go_simp
   rfl)
  refine env2_yes HSZ (by decide) H3.out ?_ (fun w' hS => ?_) ?_
  rotate_left
  (go_simp
   rfl)
  refine env2_early HSZ (by decide) HWT (by kernel_rfl) H4.out ?_ (fun w' hS => ?_) ?_
  rotate_left
  (have h := (hS.cell (p := ⟨g, 5, none⟩) lg1).trans y5'
   go_simp
   rfl)
  refine env2_yes HSZ (by decide) H5.out ?_ (fun w' hS => ?_) ?_
  rotate_left
  (have h0 := (But.cell (o := 0) hS lp hGp.out).trans p0
   have h1 := (But.cell (o := 1) hS lp hGp.out).trans p1'
   go_simp
   rfl)
  refine env2_run HSZ H6.out ?_ ?_ ?_ ?_ ?_
  rotate_left 2
  (go_simp; constructor <;> rfl)
  exact ((Below.refl _ _).alloc (Nat.le_refl _) _).drew
  refine env2_run HSZ H7.out ?_ ?_ ?_ ?_ ?_
  rotate_left 2
  rotate_right 2
  exact (.slice A8 (n + 1) cap8)
  exact w8
  exact exec_app (v := .slice A n cap) (v2 := .slice (some ⟨w1.heap.size, 0, none⟩) 1 1) _ _ (by go_simp) (by go_simp) HRUN.out
  exact HS1.out
  refine env2_yes HSZ (by decide) H8.out ?_ (fun w' hS => ?_) ?_
  rotate_left
  (go_simp
   rfl)
  refine env2_yes HSZ (by decide) H9.out ?_ (fun w' hS => ?_) ?_
  rotate_left
  (go_simp
   rfl)
  refine env2_store HSZ H10.out ?_ ?_ ?_ ?_
  rotate_left 1
  have c8 : w8.cell? ⟨g, 5, none⟩ = some (.slice A n cap) := HBK.out.cell 5
  have f8 := HBK.out.free 5
  (go_simp; rfl)
  exact (show But (fun c => c = g ∨ (Value.slice A n cap).ownBlock = some c) w1 w8 from HS1.out).set (p := ⟨g, 5, none⟩) (Or.inl rfl) _
  refine env2_end ?_
  have hfr := HFR.out
  clear HFR HSZ HWT H0 H1 H2 H3 H4 H5 H6 H7 H8 H9 H10 x_0 x_3
  subst hfr
  simp only [putAll, Act.put, List.setIfInBounds_toArray, List.set_cons_succ, List.set_cons_zero]
  go_wp2_with fail
  go_end0
  have hb8 : Below base w1 w8 := ((((Below.refl _ _).alloc (by have := HV.out.lt; exact this) _).drew)).trans (below_row HGR.out (by have := HV.out.lt; change base ≤ (w1.alloc _).heap.size; simp; omega) (fun k hk => by have := (own_lt (HV.out.ow) (g := k) (by rw [← HNN.out]; exact hk)).1; exact this))
  refine ⟨rfl, ?_, BB.out.trans (hb8.setCell HV.out.hb _)⟩
  rw [E.out]
  refine ⟨vg, vt, .slice A8 (n + 1) cap8, HV.out.setWay (s.way ++ [(p1, p2)]) (HBK.out.set 5 (.slice A8 (n + 1) cap8)) ?_ ?_ HNEW.out⟩
  · have h := HOWN.out
    have e : [Value.bool p1, .string p2] = [Value.bool (p1, p2).1, .string (p1, p2).2] := rfl
    rw [e, cpk_snoc] at h
    rw [List.length_append, ← HNN.out]
    exact ownsRow_of_block h (fun q hq => heap_far (fun e => hv8.out (by rw [hq, e])))
  · intro b hb hg hr
    rw [heap_far hg]
    exact (HGR.out.block b (by change b < (w1.alloc _).heap.size; simp; omega) (fun e => hr (by rw [← HNN.out]; exact e.symm))).trans (Below.heap_alloc w1 _ b hb)
set_option maxRecDepth 100000 in
set_option maxHeartbeats 8000000 in
theorem sPut (base g win : Nat) (s : Lk) (p : Bool × ByteArray) (w : World) (h : LkAt w base g 57 win s) (hl : s.way.length ≤ 100) :
    Calls Try.prog 42 #[.pointer (some ⟨g, 0, none⟩), .agg #[.bool p.1, .string p.2]] w fun e w' => e = .returned (.tuple #[]) ∧ LkAt w' base g 57 win (putK p s) ∧ Below base w w' := by
  obtain ⟨p1, p2⟩ := p
  obtain ⟨vg, vt, vw, hv⟩ := h
  obtain ⟨A, cap, rfl, hcap, -⟩ := own_shape hv.ow
  obtain ⟨j0, hj0, jz0, jz1, jz2⟩ := info_parts infoPkt
  have HJ := Aside.mk hj0
  have lg : g < w.heap.size := hv.blk.lt
  have HW := Aside.mk hv
  have HN : Aside (putK (p1, p2) s = if s.way.length < 100 then { s with way := s.way ++ [(p1, p2)] } else s) := ⟨rfl⟩
  generalize putK (p1, p2) s = s2 at HN ⊢
  obtain ⟨n, hn⟩ : ∃ n, n = s.way.length := ⟨_, rfl⟩
  have HNN := Aside.mk hn
  rw [← hn] at hl hcap HN
  have y5 : w.cell? ⟨g, 5, none⟩ = some (.slice A n cap) := by have h := hv.blk.cell 5; rw [HNN.out]; exact h
  have lw : ∀ b, (Value.slice A s.way.length cap).ownBlock = some b → b < w.heap.size := fun b hb => (own_lt hv.ow hb).2
  rw [← hn] at lw
  have LW := Aside.mk lw
  clear hj0 hv hn lw
  show Calls Try.prog 42 #[.pointer (some ⟨g, 0, none⟩), .agg #[.bool p1, .string p2]] w _
  go_enter Try.func42, Try.ntmps42
  by_cases hlt : (n : Int) < 100
  rotate_left
  · have E : Aside (s2 = s) := ⟨by rw [HN.out, if_neg (by omega)]⟩
    clear HN
    go_wp2_with fail
    go_end0
    have bel : Below w.heap.size w (w.alloc (.cells #[.bool p1, .string p2] 63)) := by go_grown
    exact ⟨rfl, by rw [E.out]; exact ⟨_, _, _, HW.out.below bel⟩, bel.mono HW.out.lt⟩
  have E : Aside (s2 = { s with way := s.way ++ [(p1, p2)] }) := ⟨by rw [HN.out, if_pos (by omega)]⟩
  clear HN
  go_wp2_with fail
  have bel : Below w.heap.size w (w.alloc (.cells #[.bool p1, .string p2] 63)) := by go_grown
  have HV := Aside.mk (HW.out.below bel)
  have K1 := Aside.mk (Blk.new w 63 [.bool p1, .string p2])
  have BB : Aside (Below base w (w.alloc (.cells #[.bool p1, .string p2] 63))) := ⟨bel.mono HW.out.lt⟩
  obtain ⟨w1, hw1⟩ : ∃ x, x = w.alloc (.cells #[.bool p1, .string p2] 63) := ⟨_, rfl⟩
  obtain ⟨gp, hgp⟩ : ∃ x, x = w.heap.size := ⟨_, rfl⟩
  have hsz : w1.heap.size = gp + 1 := by rw [hw1, hgp]; simp
  rw [← hw1] at HV K1 BB ⊢
  rw [← hgp] at K1 lg LW ⊢
  have y5' : w1.cell? ⟨g, 5, none⟩ = some (.slice A n cap) := by have h := HV.out.blk.cell 5; rw [HNN.out]; exact h
  have p0 : w1.cell? ⟨gp, 0, none⟩ = some (.bool p1) := K1.out.cell 0
  have p1' : w1.cell? ⟨gp, 1, none⟩ = some (.string p2) := K1.out.cell 1
  have lp : gp < w1.heap.size := K1.out.lt
  have lg1 : g < w1.heap.size := HV.out.blk.lt
  have hGp : Aside (¬ (gp = g ∨ (Value.slice A n cap).ownBlock = some gp)) := ⟨fun h => by rcases h with h | h; omega; have := LW.out _ h; omega⟩
  have hgw : Aside ((Value.slice A n cap).ownBlock ≠ some g) := ⟨fun h => HV.out.gw g (by rw [← HNN.out]; exact h) rfl⟩
  have OWN : w1.ownsRow base 63 2 (.slice A n cap) n (cpk s.way) := by have := HV.out.ow; rwa [← HNN.out] at this
  obtain ⟨v8, w8, hrun, hown, hgr, -, hblk⟩ := run_append_own_at (P := Try.prog) (ty := 28) (w := (w1.alloc (.cells #[.bool p1, .string p2] 63)).drew) base 28 63 j0 _ 2 24 Try.underlying28 HJ.out jz0 jz1 jz2 rfl (by decide) (.slice A n cap) n (cpk s.way) (OWN.alloc _).drew ⟨w1.heap.size, 0, none⟩ 1 1 [.bool p1, .string p2] rfl (cells_at w1.heap.size _ w1 63 rfl) (fun u hu => by simp at hu; rcases hu with rfl | rfl <;> rfl) (by unfold maxLen; omega) (by omega) (by have := HV.out.lt; change base ≤ (w1.alloc _).heap.size; simp; omega)
  obtain ⟨A8, cap8, rfl, hc8, -⟩ := own_shape hown
  have hv8 : Aside ((Value.slice A8 (n + 1) cap8).ownBlock ≠ some g) := ⟨fun h => by rcases hblk with e | e; exact hgw.out (by rw [← e]; exact h); rw [e] at h; injection h with h; change (w1.alloc _).heap.size = g at h; simp at h; omega⟩
  have HNEW : Aside ((Value.slice A8 (n + 1) cap8).ownBlock = (Value.slice A s.way.length cap).ownBlock ∨ ∃ b, (Value.slice A8 (n + 1) cap8).ownBlock = some b ∧ w1.heap.size ≤ b) := ⟨hblk.imp (fun e => by rw [← HNN.out]; exact e) (fun e => ⟨_, e, by change w1.heap.size ≤ (w1.alloc _).heap.size; simp⟩)⟩
  have hbk : Blk w8 g 57 [.int .i64 win, vg, .int .i64 s.acked, .int .i64 s.packed, vt, .slice A n cap] := by
    have h := HV.out.blk
    rw [← HNN.out] at h
    exact ((h.alloc _).drew).grown hgr (fun e => hgw.out e.symm)
  have HBK := Aside.mk hbk
  have HRUN := Aside.mk hrun
  have HOWN := Aside.mk hown
  have HGR := Aside.mk hgr
  have hS1 : But (fun c => c = g ∨ (Value.slice A n cap).ownBlock = some c) w1 w8 := (But.below (((Below.refl _ _).alloc (Nat.le_refl _) _).drew)).trans ⟨hgr.os, hgr.tape, hgr.output, hgr.size, fun k hk hn => hgr.block k hk (fun e => hn (Or.inr e.symm))⟩
  have HS1 := Aside.mk hS1
  clear bel y5 hw1 hgp hbk hrun hown hgr hblk hS1 OWN
  refine region_env2 [(0, true), (1, true), (2, true), (3, true), (4, true), (5, true), (6, false), (7, false), (8, true), (9, true), (10, false)] (fun w' => Below w1.heap.size w1 w') (fun w' => But (fun c => c = g ∨ (Value.slice A n cap).ownBlock = some c) w1 w') 7 20 rfl (by kernel_rfl) (by kernel_rfl) (fun _ _ d _ _ h => by cases d <;> exact h) (fun w' h => But.below h) ((Below.refl _ _).drew) (fun ops fr HFR HSZ HWT hl => ?_)
  have hl_0 := ops_start hl
  clear hl
  obtain ⟨H0, hl_1⟩ := ops_next 0 1 rfl hl_0
  clear hl_0
  obtain ⟨H1, hl_2⟩ := ops_next 1 2 rfl hl_1
  clear hl_1
  obtain ⟨H2, hl_3⟩ := ops_next 2 3 rfl hl_2
  clear hl_2
  obtain ⟨H3, hl_4⟩ := ops_next 3 4 rfl hl_3
  clear hl_3
  obtain ⟨H4, hl_5⟩ := ops_next 4 5 rfl hl_4
  clear hl_4
  obtain ⟨H5, hl_6⟩ := ops_next 5 6 rfl hl_5
  clear hl_5
  obtain ⟨H6, hl_7⟩ := ops_next 6 7 rfl hl_6
  clear hl_6
  obtain ⟨H7, hl_8⟩ := ops_next 7 8 rfl hl_7
  clear hl_7
  obtain ⟨H8, hl_9⟩ := ops_next 8 9 rfl hl_8
  clear hl_8
  obtain ⟨H9, hl_10⟩ := ops_next 9 10 rfl hl_9
  clear hl_9
  obtain ⟨H10, hl_11⟩ := ops_next 10 11 rfl hl_10
  clear hl_10
  clear hl_11
  have x_0 : ext fr 0 = _ := congrArg (fun a => Act.eval a (.tmp 0)) HFR.out
  conv at x_0 => rhs; simp only [Act.eval, Array.getD_eq_getD_getElem?, List.getElem?_toArray, List.getElem?_cons_succ, List.getElem?_cons_zero, Option.getD_some]
  have x_3 : ext fr 3 = _ := congrArg (fun a => Act.eval a (.tmp 3)) HFR.out
  conv at x_3 => rhs; simp only [Act.eval, Array.getD_eq_getD_getElem?, List.getElem?_toArray, List.getElem?_cons_succ, List.getElem?_cons_zero, Option.getD_some]
  refine env2_yes HSZ (by decide) H0.out ?_ (fun w' hS => ?_) ?_
  rotate_left
  (go_simp
   rfl)
  refine env2_yes HSZ (by decide) H1.out ?_ (fun w' hS => ?_) ?_
  rotate_left
  (go_simp
   rfl)
  refine env2_yes HSZ (by decide) H2.out ?_ (fun w' hS => ?_) ?_
  rotate_left
  (go_simp
   rfl)
  refine env2_yes HSZ (by decide) H3.out ?_ (fun w' hS => ?_) ?_
  rotate_left
  (go_simp
   rfl)
  refine env2_early HSZ (by decide) HWT (by kernel_rfl) H4.out ?_ (fun w' hS => ?_) ?_
  rotate_left
  (have h := (hS.cell (p := ⟨g, 5, none⟩) lg1).trans y5'
   go_simp
   rfl)
  refine env2_yes HSZ (by decide) H5.out ?_ (fun w' hS => ?_) ?_
  rotate_left
  (have h0 := (But.cell (o := 0) hS lp hGp.out).trans p0
   have h1 := (But.cell (o := 1) hS lp hGp.out).trans p1'
   go_simp
   rfl)
  refine env2_run HSZ H6.out ?_ ?_ ?_ ?_ ?_
  rotate_left 2
  (go_simp; constructor <;> rfl)
  exact ((Below.refl _ _).alloc (Nat.le_refl _) _).drew
  refine env2_run HSZ H7.out ?_ ?_ ?_ ?_ ?_
  rotate_left 2
  rotate_right 2
  exact (.slice A8 (n + 1) cap8)
  exact w8
  exact exec_app (v := .slice A n cap) (v2 := .slice (some ⟨w1.heap.size, 0, none⟩) 1 1) _ _ (by go_simp) (by go_simp) HRUN.out
  exact HS1.out
  refine env2_yes HSZ (by decide) H8.out ?_ (fun w' hS => ?_) ?_
  rotate_left
  (go_simp
   rfl)
  refine env2_yes HSZ (by decide) H9.out ?_ (fun w' hS => ?_) ?_
  rotate_left
  (go_simp
   rfl)
  refine env2_store HSZ H10.out ?_ ?_ ?_ ?_
  rotate_left 1
  have c8 : w8.cell? ⟨g, 5, none⟩ = some (.slice A n cap) := HBK.out.cell 5
  have f8 := HBK.out.free 5
  (go_simp; rfl)
  exact (show But (fun c => c = g ∨ (Value.slice A n cap).ownBlock = some c) w1 w8 from HS1.out).set (p := ⟨g, 5, none⟩) (Or.inl rfl) _
  refine env2_end ?_
  have hfr := HFR.out
  clear HFR HSZ HWT H0 H1 H2 H3 H4 H5 H6 H7 H8 H9 H10 x_0 x_3
  subst hfr
  simp only [putAll, Act.put, List.setIfInBounds_toArray, List.set_cons_succ, List.set_cons_zero]
  go_wp2_with fail
  go_end0
  have hb8 : Below base w1 w8 := ((((Below.refl _ _).alloc (by have := HV.out.lt; exact this) _).drew)).trans (below_row HGR.out (by have := HV.out.lt; change base ≤ (w1.alloc _).heap.size; simp; omega) (fun k hk => by have := (own_lt (HV.out.ow) (g := k) (by rw [← HNN.out]; exact hk)).1; exact this))
  refine ⟨rfl, ?_, BB.out.trans (hb8.setCell HV.out.hb _)⟩
  rw [E.out]
  refine ⟨vg, vt, .slice A8 (n + 1) cap8, HV.out.setWay (s.way ++ [(p1, p2)]) (HBK.out.set 5 (.slice A8 (n + 1) cap8)) ?_ ?_ HNEW.out⟩
  · have h := HOWN.out
    have e : [Value.bool p1, .string p2] = [Value.bool (p1, p2).1, .string (p1, p2).2] := rfl
    rw [e, cpk_snoc] at h
    rw [List.length_append, ← HNN.out]
    exact ownsRow_of_block h (fun q hq => heap_far (fun e => hv8.out (by rw [hq, e])))
  · intro b hb hg hr
    rw [heap_far hg]
    exact (HGR.out.block b (by change b < (w1.alloc _).heap.size; simp; omega) (fun e => hr (by rw [← HNN.out]; exact e.symm))).trans (Below.heap_alloc w1 _ b hb)
end Go.Proofs.Ytlopbheahedofaa.Fn
