/- Walk of the law FnFirstOfAll. Conditions: a code that is handed in. -/
import Derived.Test.YtlopbheahedofaaSame
import Derived.Test.YtlopbheahedofaaAct2
import Derived.Test.YtlopbheahedofaaLinkL
import Derived.Test.YtlopbheahedofaaLinkM
set_option linter.unusedVariables false
namespace Go.Proofs.Ytlopbheahedofaa.Fn
open Go Go.RowKit Go.Proofs.Ytlopbheahedofaa.Lib Go.Proofs.Ytlopbheahedofaa.Plan
attribute [local go_sem] look_tmp look_const look_func look_global lookT_nil lookT_hit lookT_miss

theorem bigL (A : Option Addr) (n c : Nat) (w : World) : Calls Try.prog 6 #[.slice A n c] w fun e w' => e = .returned (.bool (decide ((1048576 : Int) < (n : Int)))) ∧ w = w' := by
  go_enter Try.func6, Try.ntmps6
  go_wp2_with fail
  go_ret
  exact ⟨rfl, rfl⟩
theorem strs_empty (w : World) {base : Nat} (hb : base ≤ w.heap.size) : (w.alloc (.cells #[] 9)).ownsRow base 9 1 (.slice (some ⟨w.heap.size, 0, none⟩) 0 0) 0 (cstr []) :=
  ⟨by simp [cstr], Or.inr ⟨w.heap.size, 0, #[], rfl, hb, heap_alloc_new w _, Nat.le_refl _, by unfold maxLen; omega, by simp, by simp [cstr]⟩⟩
theorem strs_at {w : World} {base b n cap : Nat} {l : List ByteArray} (h : w.ownsRow base 9 1 (.slice (some ⟨b, 0, none⟩) n cap) l.length (cstr l)) (i : Nat) (hi : i < l.length) : w.cell? ⟨b, i, none⟩ = some (.string l[i]) := by
  have hc := h.cells (g := b) rfl i _ (cstr_at l i hi)
  rwa [add_plain] at hc
theorem strs_lt {w : World} {base b n cap k : Nat} {xs : List Value} (h : w.ownsRow base 9 1 (.slice (some ⟨b, 0, none⟩) n cap) k xs) : b < w.heap.size := (own_lt h (g := b) rfl).2
theorem repK_parts {rg ra rp : Int} {ts : List ByteArray} {ws : List APacket} {s : Lk} (h : (rg, ra, rp, ts, ws) = repK s) : rg = (s.given.length : Int) ∧ ra = (s.acked : Int) ∧ rp = (s.packed : Int) ∧ ts = s.taken ∧ ws = s.way := by
  unfold repK at h
  injection h with h1 h
  injection h with h2 h
  injection h with h3 h
  injection h with h4 h5
  exact ⟨h1, h2, h3, h4, h5⟩
set_option maxRecDepth 100000 in
set_option maxHeartbeats 8000000 in
theorem FnFirstOfAll (A : Option Addr) (n c : Nat) (w : World) (h : CodeIn w A n) :
    Calls Try.prog 4 #[.slice A n c] w fun e w' => e = .returned (.bool true) ∧ Below w.heap.size w w' := by
  by_cases hbig : (1048576 : Int) < (n : Int)
  · go_enter Try.func4, Try.ntmps4
    go_wp2_with fail
    refine (bigL A n c _).mono ?_
    rintro e w1 ⟨rfl, rfl⟩
    rw [decide_eq_true hbig]
    go_wp2_with fail
    go_ret
    exact ⟨rfl, Below.refl _ _⟩
  have HC := Aside.mk h
  have hn : n ≤ 1048576 := by omega
  clear h
  go_enter Try.func4, Try.ntmps4
  go_wp2_with fail
  refine (bigL A n c _).mono ?_
  rintro e w1 ⟨rfl, rfl⟩
  rw [decide_eq_false (show ¬ (1048576 : Int) < (n : Int) by omega)]
  clear hbig
  go_wp2_with fail
  refine (drawLink A n c w HC.out hn).mono ?_
  rintro e w1 ⟨win, v, acts, rfl, hw0, hw17, hat, hal, hb⟩
  obtain ⟨A5, cap5, rfl, hcap5, -⟩ := own_shape hat.own
  have HWT := Aside.mk (hat.wt (by omega))
  obtain ⟨N, hN⟩ : ∃ N, N = acts.length := ⟨_, rfl⟩
  have HN := Aside.mk hN
  rw [← hN] at hat hcap5 hal ⊢
  have HAT := Aside.mk hat
  have HB1 := Aside.mk hb
  obtain ⟨⟨⟨rg, ra, rp, ts, ws⟩, code⟩, hres⟩ : ∃ r, r = linkR win acts := ⟨_, rfl⟩
  have HRES := Aside.mk hres
  have HRO : Aside (RLinkReport.ok (rg, ra, rp, ts, ws)) := ⟨by have := link_ok win acts; rw [← hres] at this; exact this⟩
  have HRW : Aside (RLinkReport.wt (rg, ra, rp, ts, ws) ≤ 1073741824) := ⟨by have := link_wt win acts; rw [← hres] at this; exact this⟩
  have HSM : Aside (ts.length ≤ 1048576 ∧ ws.length ≤ 1048576) := ⟨by
    rcases linkR_cases win acts with hz | ⟨W, hz, ok, tk, hl⟩ <;> rw [← hres] at hz
    · injection hz with _ hz; injection hz with _ hz; injection hz with _ hz; injection hz with h4 h5
      rw [h4, h5]; decide
    · obtain ⟨-, -, -, h4, h5⟩ := repK_parts hz
      rw [h4, h5]
      have := ok.taken
      have := ok.way
      omega⟩
  clear hN hat hb hres
  go_wp2_with fail
  refine (sLinkRun win acts (.slice A5 N cap5) w1 (HAT.out.old (Below.refl _ _)) HWT.out).mono ?_
  rw [← HRES.out]
  rintro e w2 ⟨cs, rfl, hr, hb⟩
  dsimp only at hr ⊢
  obtain ⟨B1, c1, B2, c2, rfl, -, -⟩ := report_open hr
  dsimp only at hr ⊢
  obtain ⟨nt, hnt⟩ : ∃ x, x = ts.length := ⟨_, rfl⟩
  obtain ⟨nw, hnw⟩ : ∃ x, x = ws.length := ⟨_, rfl⟩
  rw [← hnt, ← hnw] at hr ⊢
  have HNT := Aside.mk hnt
  have HNW := Aside.mk hnw
  have HR1 := Aside.mk hr
  have HB2 := Aside.mk hb
  clear hr hb hnt hnw
  go_wp2_with fail
  have hbx : Below w1.heap.size w1 (w2.alloc (.cells #[.int .i64 rg, .int .i64 ra, .int .i64 rp, .slice B1 nt c1, .slice B2 nw c2] 30)) := HB2.out.alloc HB2.out.size _
  refine (iLinkRun win acts (.slice A5 N cap5) _ (HAT.out.old hbx) HWT.out).mono ?_
  rw [← HRES.out]
  rintro e w3 ⟨ds, rfl, hr, hb⟩
  dsimp only at hr ⊢
  obtain ⟨D1, d1, D2, d2, rfl, -, -⟩ := report_open hr
  dsimp only at hr ⊢
  rw [← HNT.out, ← HNW.out] at hr ⊢
  have HR2 := Aside.mk hr
  have K5 := Aside.mk ((Blk.new w2 30 [.int .i64 rg, .int .i64 ra, .int .i64 rp, .slice B1 nt c1, .slice B2 nw c2]).below hb)
  have HB3 : Aside (Below w1.heap.size w1 w3) := ⟨hbx.trans (hb.mono hbx.size)⟩
  have HB23 : Aside (Below w2.heap.size w2 w3) := ⟨((Below.refl _ _).alloc (Nat.le_refl _) _).trans (hb.mono (by simp))⟩
  have y0 := K5.out.cell 0
  have y1 := K5.out.cell 1
  have y2 := K5.out.cell 2
  have y3 := K5.out.cell 3
  have y4 := K5.out.cell 4
  simp only [List.getElem?_cons_zero, List.getElem?_cons_succ] at y0 y1 y2 y3 y4
  have l5 : w2.heap.size < w3.heap.size := K5.out.lt
  clear hr hb hbx
  go_wp2_with fail
  obtain ⟨w4, hw4⟩ : ∃ x, x = w3.alloc (.cells #[.int .i64 rg, .int .i64 ra, .int .i64 rp, .slice D1 nt d1, .slice D2 nw d2] 30) := ⟨_, rfl⟩
  rw [← hw4]
  have K7 : Aside (Blk w4 w3.heap.size 30 [.int .i64 rg, .int .i64 ra, .int .i64 rp, .slice D1 nt d1, .slice D2 nw d2]) := ⟨by rw [hw4]; exact Blk.new w3 _ _⟩
  have hb34 : Below w3.heap.size w3 w4 := by rw [hw4]; exact (Below.refl _ _).alloc (Nat.le_refl _) _
  have HD : Aside (RLinkReport.rd False w4 (Old w4) (rg, ra, rp, ts, ws) [.int .i64 rg, .int .i64 ra, .int .i64 rp, .slice D1 nt d1, .slice D2 nw d2]) := ⟨RLinkReport.up HR2.out (fun b hb => hb.2) hb34⟩
  have HE : Aside (RLinkReport.rd False w4 (Old w4) (rg, ra, rp, ts, ws) [.int .i64 rg, .int .i64 ra, .int .i64 rp, .slice B1 nt c1, .slice B2 nw c2]) := ⟨RLinkReport.up HR1.out (fun b hb => hb.2) (below_later HB23.out hb34)⟩
  have HB4 : Aside (Below w1.heap.size w1 w4) := ⟨below_later HB3.out hb34⟩
  clear hw4 hb34 HR1 HR2 HB23 HB3 y0 y1 y2 y3 y4 K5 l5
  refine (sameLink (rg, ra, rp, ts, ws) _ _ w4 HD.out HE.out HSM.out).mono ?_
  rintro e w5 ⟨rfl, hb⟩
  have K8 := Aside.mk (K7.out.below hb)
  have HD5 := Aside.mk (RLinkReport.old HD.out hb)
  have HB5 := Aside.mk (below_later HB4.out hb)
  have HSL : Aside (SlOf Rec.str.k (Rec.str.rd False w5) False w5 (Old w5) ts D1) := ⟨by
    obtain ⟨P1, p1, P2, p2, eP, hts, -⟩ := report_open HD5.out
    dsimp only at eP hts
    simp only [List.cons.injEq, Value.slice.injEq] at eP
    obtain ⟨-, -, -, ⟨eP1, -, -⟩, -⟩ := eP
    obtain ⟨_, _, eQ, -, hsl⟩ := hts
    simp only [List.cons.injEq, Value.slice.injEq] at eQ
    rw [eP1, eQ.1.1]
    exact hsl⟩
  clear hb K7 HD HE HB4
  have bel0 : Aside (Below w.heap.size w w5) := ⟨below_later HB1.out HB5.out⟩
  by_cases hc0 : code = 0
  rotate_left
  · go_wp2_with fail
    go_ret
    exact ⟨rfl, bel0.out⟩
  subst hc0
  obtain ⟨hwin1, hwin2, hl400, HALL, hrep⟩ := linkR_run HRES.out.symm
  obtain ⟨W, rfl⟩ := Int.eq_ofNat_of_zero_le hw0
  rw [Int.toNat_natCast] at hrep
  have HREP := Aside.mk hrep
  have HALL := Aside.mk HALL
  have HAT5 := Aside.mk (HAT.out.below HB5.out)
  have hN4 : N ≤ 400 := by have := HN.out; omega
  have hW16 : W ≤ 16 := by omega
  obtain ⟨j0, hj0, jz0, jz1, jz2⟩ := info_parts infoStr
  have HJ := Aside.mk hj0
  have HJ0 := Aside.mk jz0
  have HJ1 := Aside.mk jz1
  have HJ2 := Aside.mk jz2
  have HG0 := Aside.mk (strs_empty w5 (Nat.le_refl w5.heap.size))
  have HBL0 : Aside (Below w5.heap.size w5 (w5.alloc (.cells #[] 9))) := ⟨(Below.refl _ _).alloc (Nat.le_refl _) _⟩
  clear hrep hl400 hwin1 hwin2 hj0 jz0 jz1 jz2 HAT HRES
  go_wp2_with fail
  go_loopw [9, 10, 11] (fun gv sv iv wr => ∃ i sp : Nat, i ≤ N ∧ iv = .int .i64 i ∧ sv = .int .i64 sp ∧ sp ≤ i ∧ Aside (sp = spoilt (acts.take i)) ∧ Aside (wr.ownsRow w5.heap.size 9 1 gv (givenOf (acts.take i)).length (cstr (givenOf (acts.take i)))) ∧ Aside (Below w5.heap.size w5 wr)) (fun _ _ iv _ => N - (intOf iv).toNat)
  case atStart => exact ⟨0, 0, Nat.zero_le _, rfl, rfl, Nat.le_refl _, ⟨rfl⟩, HG0, HBL0⟩
  case round =>
    rename_i gv _ _
    obtain ⟨i, sp, hi, rfl, rfl, hsi, hsp, hrow, hbel⟩ := hrel
    clear HG0 HBL0
    obtain ⟨G, hG⟩ : ∃ G, G = (givenOf (acts.take i)).length := ⟨_, rfl⟩
    have hGN : G ≤ 400 := by
      have h1 := givenOf_len (acts.take i)
      rw [List.length_take] at h1
      omega
    have HGE := Aside.mk hG
    obtain ⟨Ag, capg, rfl, hcapg, -⟩ := own_shape hrow.out
    have HROW := hrow
    rw [← hG] at HROW hcapg ⊢
    clear hG hrow
    by_cases hlt : i < N
    · have hlt1 : i < acts.length := by rw [← HN.out]; exact hlt
      have hli : (i : Int) < N := by omega
      obtain ⟨b, cap6, hhd, -, hbl, -⟩ := HAT5.out.head (by omega)
      simp only [Value.slice.injEq] at hhd
      obtain ⟨hhd, -, -⟩ := hhd
      subst hhd
      obtain ⟨q0, q1, q2⟩ := HAT5.out.cellsAt i hlt1
      have es := Aside.mk (spoilt_take_succ acts i hlt1)
      have eg := Aside.mk (givenOf_take_succ acts i hlt1)
      obtain ⟨⟨x0, x1, x2⟩, hx⟩ : ∃ x, x = acts[i] := ⟨_, rfl⟩
      rw [← hx] at q0 q1 q2 es eg
      dsimp only at q0 q1 q2
      have d0 : wr.cell? ⟨b, i * 3, none⟩ = some (.int .i64 x0) := (hbel.out.cell (p := ⟨b, i * 3, none⟩) hbl).trans q0
      have d2 : wr.cell? ⟨b, i * 3 + 2, none⟩ = some (.string x2) := (hbel.out.cell (p := ⟨b, i * 3 + 2, none⟩) hbl).trans q2
      clear q0 q1 q2 hx
      by_cases hx1 : x0 = 1
      · subst hx1
        have hbs : w5.heap.size ≤ wr.heap.size := hbel.out.size
        obtain ⟨w8, A8, cap8, hrun, hown, hkeep, hb8, hnew, hs8, hc8⟩ := own_app (P := Try.prog) (t := 27) j0 _ Try.underlying27 HJ.out HJ0.out HJ1.out HJ2.out rfl (by decide) HROW.out [.string x2] rfl (fun u hu => by simp at hu; subst hu; rfl) (by unfold maxLen; omega) (by omega) hbs
        have HRUN := Aside.mk hrun
        have e0 : w8.cell? ⟨b, i * 3, none⟩ = some (.int .i64 1) := (hb8.cell (p := ⟨b, i * 3, none⟩) hbl).trans d0
        have HROW2 : Aside (w8.ownsRow w5.heap.size 9 1 (.slice A8 (G + 1) cap8) (givenOf (acts.take (i + 1))).length (cstr (givenOf (acts.take (i + 1))))) := ⟨by
          rw [eg.out, if_pos rfl, List.length_append, ← HGE.out, ← cstr_snoc]
          exact hown⟩
        have hbel2 := Aside.mk (hbel.out.trans hb8)
        have hsp2 : Aside (sp = spoilt (acts.take (i + 1))) := ⟨by rw [es.out, if_neg (show ¬ (1 : Int) = 6 by decide)]; exact hsp.out⟩
        clear hrun hown hkeep hb8 hnew hs8 hbel HROW es eg
        go_wp2_with (at_builtin; refine Go.Lib.wpList_append_run _ rfl _ _ _ _ rfl _ _ rfl rfl _ _ HRUN.out ?_)
        go_roundw
        case rel => exact ⟨i + 1, sp, by omega, by go_num, rfl, by omega, hsp2, HROW2, hbel2⟩
        case measure => first | (simp [intOf]; done) | (simp [intOf]; omega)
      have HROW2 : Aside (wr.ownsRow w5.heap.size 9 1 (.slice Ag G capg) (givenOf (acts.take (i + 1))).length (cstr (givenOf (acts.take (i + 1))))) := ⟨by
        rw [eg.out, if_neg hx1, List.append_nil, ← HGE.out]
        exact HROW.out⟩
      clear HROW eg
      by_cases hx6 : x0 = 6
      · subst hx6
        have hsp2 : Aside (sp + 1 = spoilt (acts.take (i + 1))) := ⟨by rw [es.out, if_pos rfl, ← hsp.out]⟩
        clear es
        go_wp2_with fail
        go_roundw
        case rel => exact ⟨i + 1, sp + 1, by omega, by go_num, by go_num, by omega, hsp2, HROW2, hbel⟩
        case measure => first | (simp [intOf]; done) | (simp [intOf]; omega)
      have hsp2 : Aside (sp = spoilt (acts.take (i + 1))) := ⟨by rw [es.out, if_neg hx6]; exact hsp.out⟩
      clear es
      go_wp2_with fail
      go_roundw
      case rel => exact ⟨i + 1, sp, by omega, by go_num, rfl, by omega, hsp2, HROW2, hbel⟩
      case measure => first | (simp [intOf]; done) | (simp [intOf]; omega)
    obtain rfl : i = N := by omega
    have etk : acts.take i = acts := by rw [HN.out, List.take_length]
    rw [etk] at hsp HGE HROW
    clear etk
    have belz : Aside (Below w.heap.size w wr) := ⟨below_later bel0.out hbel.out⟩
    by_cases hsp1 : (1 : Int) < (sp : Int)
    · go_wp2_with fail
      go_ret
      exact ⟨rfl, belz.out⟩
    have FO := firstOK W acts HALL.out (by rw [← HN.out]; omega) (by have := hsp.out; omega)
    obtain ⟨s, hs⟩ : ∃ s, s = runK W acts := ⟨_, rfl⟩
    rw [← hs] at FO HREP
    obtain ⟨e1, e2, e3, e4, e5⟩ := repK_parts HREP.out
    obtain ⟨na, hna⟩ : ∃ x, x = s.acked := ⟨_, rfl⟩
    obtain ⟨np, hnp⟩ : ∃ x, x = s.packed := ⟨_, rfl⟩
    have f1 := FO.g
    have f2 := FO.t
    have f3 := FO.a
    have f4 := FO.pw
    have f5 := FO.pg
    have f6 := FO.tp
    have f7 := FO.fin
    have FALL := Aside.mk FO.all
    rw [f1] at e1 f5 f7
    rw [← HGE.out] at e1 f2 f5 f7
    rw [← e4] at f2 f3 f6
    rw [← HNT.out] at f2 f3 f6
    rw [← hna] at e2 f3 f4 f7
    rw [← hnp] at e3 f4 f5 f6 f7
    subst e1 e2 e3
    have FFIN := Aside.mk f7
    have E4 := Aside.mk e4
    clear f1 f7 hna hnp e5 FO HREP hs e4
    have g2 : (nt : Int) ≤ G := by omega
    have g3 : (na : Int) ≤ nt := by omega
    have g4 : (np : Int) ≤ na + W := by omega
    have g5 : (np : Int) ≤ G := by omega
    have g6 : (nt : Int) ≤ np := by omega
    have n2 : ¬ (G : Int) < nt := by omega
    have n3 : ¬ (nt : Int) < na := by omega
    have n4 : ¬ (na : Int) + W < np := by omega
    have n5 : ¬ (G : Int) < np := by omega
    have n6 : ¬ (np : Int) < nt := by omega
    have K9 := Aside.mk (K8.out.below hbel.out)
    have y0 := K9.out.cell 0
    have y1 := K9.out.cell 1
    have y2 := K9.out.cell 2
    have y3 := K9.out.cell 3
    simp only [List.getElem?_cons_zero, List.getElem?_cons_succ] at y0 y1 y2 y3
    have hns : ¬ (1 : Int) < (sp : Int) := hsp1
    clear f2 f3 f4 f5 f6
    go_wp2_with fail
    go_loopw [12] (fun jv wx => ∃ j : Nat, j ≤ nt ∧ jv = .int .i64 j ∧ Aside (Below wr.heap.size wr wx)) (fun jv _ => nt - (intOf jv).toNat)
    case atStart => exact ⟨0, Nat.zero_le _, rfl, ⟨Below.refl _ _⟩⟩
    case round =>
      rename_i wy _ _
      obtain ⟨j, hj, rfl, hbj⟩ := hrel
      clear y0 y1 y2 y3
      have K10 := Aside.mk (K9.out.below hbj.out)
      have y0 := K10.out.cell 0
      have y1 := K10.out.cell 1
      have y2 := K10.out.cell 2
      have y3 := K10.out.cell 3
      simp only [List.getElem?_cons_zero, List.getElem?_cons_succ] at y0 y1 y2 y3
      have lk : w3.heap.size < wr.heap.size := K10.out.lt
      have belj : Aside (Below w.heap.size w wr) := ⟨below_later belz.out hbj.out⟩
      by_cases hjt : j < nt
      · have hjt1 : j < ts.length := by rw [← HNT.out]; exact hjt
        have hji : (j : Int) < nt := by omega
        have hjg : j < G := by omega
        have hjG : (j : Int) < G := by omega
        have hjl : j < (givenOf acts).length := by rw [← HGE.out]; exact hjg
        obtain ⟨b1, o1, rfl, l1, d1'⟩ := str_at HSL.out (below_later hbel.out hbj.out) j hjt1
        obtain ⟨b2, rfl, -, -, -, -⟩ := own_addr HROW.out (by omega)
        have HR9 := ownsRow_of_block HROW.out (fun q hq => hbj.out.block q (own_lt HROW.out hq).2)
        have hR9 : wr.ownsRow w5.heap.size 9 1 (.slice (some ⟨b2, 0, none⟩) G capg) (givenOf acts).length (cstr (givenOf acts)) := by rw [← HGE.out]; exact HR9
        have d2' := strs_at hR9 j hjl
        have l2 := strs_lt HR9
        have hEQ : ts[j] = (givenOf acts)[j] := by
          have h1 := FALL.out j (by rw [← E4.out]; exact hjt1) hjl
          rw [← h1]
          simp only [E4.out]
        rw [hEQ] at d1'
        obtain ⟨x, hx⟩ : ∃ x, x = (givenOf acts)[j] := ⟨_, rfl⟩
        rw [← hx] at d1' d2'
        have hb9 := Aside.mk hbj.out.drew
        clear hx hEQ hR9 HR9 hbj
        go_wp2_with fail
        refine region_env [(0, true), (1, true), (2, true), (3, true), (4, true), (5, true), (6, true), (7, true), (8, true), (9, true)] (fun w' => Below wr.heap.size wr w') 150 rfl (by kernel_rfl) (by kernel_rfl) (fun _ _ d _ _ h => by cases d <;> exact h) ((Below.refl _ _).drew) (fun ops fr HFR HSZ hl => ?_)
        have hl_0 := ops_start hl
        clear hl
        obtain ⟨H0, hl_1⟩ := ops_next 0 1 rfl hl_0
        clear hl_0
        obtain ⟨H1, hl_2⟩ := ops_next 1 2 rfl hl_1
        clear hl_1
        obtain ⟨H2, hl_3⟩ := ops_next 2 3 rfl hl_2
        clear hl_2
        obtain ⟨H3, hl_4⟩ := ops_next 3 4 rfl hl_3
        clear hl_3
        obtain ⟨H4, hl_5⟩ := ops_next 4 5 rfl hl_4
        clear hl_4
        obtain ⟨H5, hl_6⟩ := ops_next 5 6 rfl hl_5
        clear hl_5
        obtain ⟨H6, hl_7⟩ := ops_next 6 7 rfl hl_6
        clear hl_6
        obtain ⟨H7, hl_8⟩ := ops_next 7 8 rfl hl_7
        clear hl_7
        obtain ⟨H8, hl_9⟩ := ops_next 8 9 rfl hl_8
        clear hl_8
        obtain ⟨H9, hl_10⟩ := ops_next 9 10 rfl hl_9
        clear hl_9
        clear hl_10
        have x_7 : ext fr 7 = _ := congrArg (fun a => Act.eval a (.tmp 7)) HFR.out
        conv at x_7 => rhs; simp only [Act.eval, Array.getD_eq_getD_getElem?, List.getElem?_toArray, List.getElem?_cons_succ, List.getElem?_cons_zero, Option.getD_some]
        have x_12 : ext fr 12 = _ := congrArg (fun a => Act.eval a (.tmp 12)) HFR.out
        conv at x_12 => rhs; simp only [Act.eval, Array.getD_eq_getD_getElem?, List.getElem?_toArray, List.getElem?_cons_succ, List.getElem?_cons_zero, Option.getD_some]
        have x_9 : ext fr 9 = _ := congrArg (fun a => Act.eval a (.tmp 9)) HFR.out
        conv at x_9 => rhs; simp only [Act.eval, Array.getD_eq_getD_getElem?, List.getElem?_toArray, List.getElem?_cons_succ, List.getElem?_cons_zero, Option.getD_some]
        refine env_yes HSZ H0.out ?_ (fun w' hS => ?_) ?_
        rotate_left
        (go_simp
         rfl)
        refine env_yes HSZ H1.out ?_ (fun w' hS => ?_) ?_
        rotate_left
        (have h := (hS.cell (p := ⟨w3.heap.size, 3, none⟩) lk).trans y3
         go_simp
         rfl)
        refine env_yes HSZ H2.out ?_ (fun w' hS => ?_) ?_
        rotate_left
        (go_simp
         rfl)
        refine env_yes HSZ H3.out ?_ (fun w' hS => ?_) ?_
        rotate_left
        (go_simp
         rfl)
        refine env_yes HSZ H4.out ?_ (fun w' hS => ?_) ?_
        rotate_left
        (have h := (hS.cell (p := ⟨b1, o1 + j, none⟩) l1).trans d1'
         go_simp
         rfl)
        refine env_yes HSZ H5.out ?_ (fun w' hS => ?_) ?_
        rotate_left
        (go_simp
         rfl)
        refine env_yes HSZ H6.out ?_ (fun w' hS => ?_) ?_
        rotate_left
        (go_simp
         rfl)
        refine env_yes HSZ H7.out ?_ (fun w' hS => ?_) ?_
        rotate_left
        (go_simp
         rfl)
        refine env_yes HSZ H8.out ?_ (fun w' hS => ?_) ?_
        rotate_left
        (have h := (hS.cell (p := ⟨b2, j, none⟩) l2).trans d2'
         go_simp
         rfl)
        refine env_yes HSZ H9.out ?_ (fun w' hS => ?_) ?_
        rotate_left
        (go_simp
         rfl)
        refine env_end ?_
        have hfr := HFR.out
        clear HFR HSZ H0 H1 H2 H3 H4 H5 H6 H7 H8 H9 x_7 x_12 x_9
        subst hfr
        simp only [putAll, Act.put, List.setIfInBounds_toArray, List.set_cons_succ, List.set_cons_zero]
        go_wp2_with fail
        go_roundw
        case rel => exact ⟨j + 1, by omega, by go_num, hb9⟩
        case measure => first | (simp [intOf]; done) | (simp [intOf]; omega)
      · obtain rfl : j = nt := by omega
        by_cases hfin : (np : Int) = G
        · go_wp2_with fail
          go_ret
          exact ⟨rfl, belj.out⟩
        · have hfin2 : (np : Int) = na + W := by have := FFIN.out; omega
          have hfb : ((np : Int) == (G : Int)) = false := by simpa using hfin
          go_wp2_with fail
          go_ret
          exact ⟨by first | rfl | (simp [hfin2]; done) | (rw [hfin2]; simp), belj.out⟩
end Go.Proofs.Ytlopbheahedofaa.Fn
