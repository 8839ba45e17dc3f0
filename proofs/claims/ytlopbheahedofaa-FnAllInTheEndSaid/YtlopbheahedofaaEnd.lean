/- Walk of the law FnAllInTheEnd. Conditions: a code that is handed in. -/
import Derived.Test.YtlopbheahedofaaEnd0
set_option linter.unusedVariables false
namespace Go.Proofs.Ytlopbheahedofaa.Fn
open Go Go.RowKit Go.Proofs.Ytlopbheahedofaa.Lib Go.Proofs.Ytlopbheahedofaa.Plan
attribute [local go_sem] look_tmp look_const look_func look_global lookT_nil lookT_hit lookT_miss

set_option maxRecDepth 100000 in
set_option maxHeartbeats 16000000 in
theorem FnAllInTheEnd (A : Option Addr) (n c : Nat) (w : World) (h : CodeIn w A n) :
    Calls Try.prog 3 #[.slice A n c] w fun e w' => e = .returned (.bool true) ∧ Below w.heap.size w w' := by
  by_cases hbig : (1048576 : Int) < (n : Int)
  · go_enter Try.func3, Try.ntmps3
    go_wp2_with fail
    refine (bigL A n c _).mono ?_
    rintro e w1 ⟨rfl, rfl⟩
    rw [decide_eq_true hbig]
    go_wp2_with fail
    go_ret
    exact ⟨rfl, Below.refl _ _⟩
  have HC := Aside.mk h
  have hn : n ≤ 1048576 := by omega
  clear h
  go_enter Try.func3, Try.ntmps3
  go_wp2_with fail
  refine (bigL A n c _).mono ?_
  rintro e w1 ⟨rfl, rfl⟩
  rw [decide_eq_false (show ¬ (1048576 : Int) < (n : Int) by omega)]
  clear hbig
  go_wp2_with fail
  refine (drawLink A n c w HC.out hn).mono ?_
  rintro e w1 ⟨win, v, acts, rfl, hw0, hw17, hat, hal, hb⟩
  obtain ⟨A5, cap5, rfl, hcap5, -⟩ := own_shape hat.own
  have HWT := Aside.mk (hat.wt (by omega))
  obtain ⟨N, hN⟩ : ∃ N, N = acts.length := ⟨_, rfl⟩
  have HN := Aside.mk hN
  rw [← hN] at hat hcap5 hal ⊢
  have HAT := Aside.mk hat
  have HB1 := Aside.mk hb
  obtain ⟨⟨⟨rg, ra, rp, ts, ws⟩, code⟩, hres⟩ : ∃ r, r = linkR win acts := ⟨_, rfl⟩
  have HRES := Aside.mk hres
  have HRO : Aside (RLinkReport.ok (rg, ra, rp, ts, ws)) := ⟨by have := link_ok win acts; rw [← hres] at this; exact this⟩
  have HRW : Aside (RLinkReport.wt (rg, ra, rp, ts, ws) ≤ 1073741824) := ⟨by have := link_wt win acts; rw [← hres] at this; exact this⟩
  have HSM : Aside (ts.length ≤ 1048576 ∧ ws.length ≤ 1048576) := ⟨by
    rcases linkR_cases win acts with hz | ⟨W, hz, ok, tk, hl⟩ <;> rw [← hres] at hz
    · injection hz with _ hz; injection hz with _ hz; injection hz with _ hz; injection hz with h4 h5
      rw [h4, h5]; decide
    · obtain ⟨-, -, -, h4, h5⟩ := repK_parts hz
      rw [h4, h5]
      have := ok.taken
      have := ok.way
      omega⟩
  clear hN hat hb hres
  go_wp2_with fail
  refine (sLinkRun win acts (.slice A5 N cap5) w1 (HAT.out.old (Below.refl _ _)) HWT.out).mono ?_
  rw [← HRES.out]
  rintro e w2 ⟨cs, rfl, hr, hb⟩
  dsimp only at hr ⊢
  obtain ⟨B1, c1, B2, c2, rfl, -, -⟩ := report_open hr
  dsimp only at hr ⊢
  obtain ⟨nt, hnt⟩ : ∃ x, x = ts.length := ⟨_, rfl⟩
  obtain ⟨nw, hnw⟩ : ∃ x, x = ws.length := ⟨_, rfl⟩
  rw [← hnt, ← hnw] at hr ⊢
  have HNT := Aside.mk hnt
  have HNW := Aside.mk hnw
  have HR1 := Aside.mk hr
  have HB2 := Aside.mk hb
  clear hr hb hnt hnw
  have hhw : w.heap.size ≤ w1.heap.size := HB1.out.size
  have bel0 : Aside (Below w.heap.size w (w2.alloc (.cells #[.int .i64 rg, .int .i64 ra, .int .i64 rp, .slice B1 nt c1, .slice B2 nw c2] 30))) := ⟨(below_later HB1.out HB2.out).alloc (by have := HB2.out.size; omega) _⟩
  by_cases hc0 : code = 0
  rotate_left
  · go_wp2_with fail
    go_ret
    exact ⟨rfl, bel0.out⟩
  subst hc0
  by_cases hN1 : (100 : Int) < (N : Int)
  · go_wp2_with fail
    go_ret
    exact ⟨rfl, bel0.out⟩
  obtain ⟨hwin1, hwin2, hl400, HALL, hrep⟩ := linkR_run HRES.out.symm
  obtain ⟨W, rfl⟩ := Int.eq_ofNat_of_zero_le hw0
  rw [Int.toNat_natCast] at hrep
  have HREP := Aside.mk hrep
  have HALL := Aside.mk HALL
  have hN4 : N ≤ 100 := by omega
  have hW16 : W ≤ 16 := by omega
  have hW1 : 1 ≤ W := by omega
  obtain ⟨w5, hw5⟩ : ∃ x, x = w2.alloc (.cells #[.int .i64 rg, .int .i64 ra, .int .i64 rp, .slice B1 nt c1, .slice B2 nw c2] 30) := ⟨_, rfl⟩
  have K8 : Aside (Blk w5 w2.heap.size 30 [.int .i64 rg, .int .i64 ra, .int .i64 rp, .slice B1 nt c1, .slice B2 nw c2]) := ⟨by rw [hw5]; exact Blk.new w2 _ _⟩
  have HB5 : Aside (Below w1.heap.size w1 w5) := ⟨by rw [hw5]; exact HB2.out.alloc HB2.out.size _⟩
  rw [← hw5] at bel0
  have HW5 := Aside.mk hw5
  have h12 : w1.heap.size ≤ w2.heap.size := HB2.out.size
  clear hw5 HB2 HR1
  have HAT5 := Aside.mk (HAT.out.below HB5.out)
  obtain ⟨j0, hj0, jz0, jz1, jz2⟩ := info_parts infoStr
  have HJ := Aside.mk hj0
  have HJ0 := Aside.mk jz0
  have HJ1 := Aside.mk jz1
  have HJ2 := Aside.mk jz2
  have HG0 := Aside.mk (strs_empty w5 (Nat.le_refl w5.heap.size))
  have HBL0 : Aside (Below w5.heap.size w5 (w5.alloc (.cells #[] 9))) := ⟨(Below.refl _ _).alloc (Nat.le_refl _) _⟩
  have HG1 : Aside ((w5.alloc (.cells #[] 9)).ownsRow w5.heap.size 9 1 (.slice (some ⟨w2.heap.size + 1, 0, none⟩) 0 0) 0 (cstr [])) := ⟨by
    have e : w2.heap.size + 1 = w5.heap.size := by rw [HW5.out]; simp
    rw [e]; exact HG0.out⟩
  have hAlt : Aside (∀ q, (Value.slice A5 N cap5).ownBlock = some q → q < w1.heap.size) := ⟨fun q hq => (own_lt HAT.out.own hq).2⟩
  clear hrep hl400 hwin1 hwin2 hj0 jz0 jz1 jz2 HAT HRES
  go_wp2_with fail
  rw [← HW5.out]
  clear HW5
  go_loopw [7, 8, 9] (fun gv sv iv wr => ∃ i sp : Nat, i ≤ N ∧ iv = .int .i64 i ∧ sv = .int .i64 sp ∧ sp ≤ i ∧ Aside (sp = spoilt (acts.take i)) ∧ Aside (wr.ownsRow w5.heap.size 9 1 gv (givenOf (acts.take i)).length (cstr (givenOf (acts.take i)))) ∧ Aside (Below w5.heap.size w5 wr)) (fun _ _ iv _ => N - (intOf iv).toNat)
  case atStart => exact ⟨0, 0, Nat.zero_le _, rfl, rfl, Nat.le_refl _, ⟨rfl⟩, HG1, HBL0⟩
  case round =>
    rename_i gv _ _
    obtain ⟨i, sp, hi, rfl, rfl, hsi, hsp, hrow, hbel⟩ := hrel
    clear HG0 HG1 HBL0
    obtain ⟨G, hG⟩ : ∃ G, G = (givenOf (acts.take i)).length := ⟨_, rfl⟩
    have hGN : G ≤ 400 := by
      have h1 := givenOf_len (acts.take i)
      rw [List.length_take] at h1
      omega
    have HGE := Aside.mk hG
    obtain ⟨Ag, capg, rfl, hcapg, -⟩ := own_shape hrow.out
    have HROW := hrow
    rw [← hG] at HROW hcapg ⊢
    clear hG hrow
    by_cases hlt : i < N
    · have hlt1 : i < acts.length := by rw [← HN.out]; exact hlt
      have hli : (i : Int) < N := by omega
      obtain ⟨b, cap6, hhd, -, hbl, -⟩ := HAT5.out.head (by omega)
      simp only [Value.slice.injEq] at hhd
      obtain ⟨hhd, -, -⟩ := hhd
      subst hhd
      obtain ⟨q0, q1, q2⟩ := HAT5.out.cellsAt i hlt1
      have es := Aside.mk (spoilt_take_succ acts i hlt1)
      have eg := Aside.mk (givenOf_take_succ acts i hlt1)
      obtain ⟨⟨x0, x1, x2⟩, hx⟩ : ∃ x, x = acts[i] := ⟨_, rfl⟩
      rw [← hx] at q0 q1 q2 es eg
      dsimp only at q0 q1 q2
      have d0 : wr.cell? ⟨b, i * 3, none⟩ = some (.int .i64 x0) := (hbel.out.cell (p := ⟨b, i * 3, none⟩) hbl).trans q0
      have d2 : wr.cell? ⟨b, i * 3 + 2, none⟩ = some (.string x2) := (hbel.out.cell (p := ⟨b, i * 3 + 2, none⟩) hbl).trans q2
      clear q0 q1 q2 hx
      by_cases hx1 : x0 = 1
      · subst hx1
        have hbs : w5.heap.size ≤ wr.heap.size := hbel.out.size
        obtain ⟨w8, A8, cap8, hrun, hown, hkeep, hb8, hnew, hs8, hc8⟩ := own_app (P := Try.prog) (t := 27) j0 _ Try.underlying27 HJ.out HJ0.out HJ1.out HJ2.out rfl (by decide) HROW.out [.string x2] rfl (fun u hu => by simp at hu; subst hu; rfl) (by unfold maxLen; omega) (by omega) hbs
        have HRUN := Aside.mk hrun
        have e0 : w8.cell? ⟨b, i * 3, none⟩ = some (.int .i64 1) := (hb8.cell (p := ⟨b, i * 3, none⟩) hbl).trans d0
        have HROW2 : Aside (w8.ownsRow w5.heap.size 9 1 (.slice A8 (G + 1) cap8) (givenOf (acts.take (i + 1))).length (cstr (givenOf (acts.take (i + 1))))) := ⟨by
          rw [eg.out, if_pos rfl, List.length_append, ← HGE.out, ← cstr_snoc]
          exact hown⟩
        have hbel2 := Aside.mk (hbel.out.trans hb8)
        have hsp2 : Aside (sp = spoilt (acts.take (i + 1))) := ⟨by rw [es.out, if_neg (show ¬ (1 : Int) = 6 by decide)]; exact hsp.out⟩
        clear hrun hown hkeep hb8 hnew hs8 hbel HROW es eg
        go_wp2_with (at_builtin; refine Go.Lib.wpList_append_run _ rfl _ _ _ _ rfl _ _ rfl rfl _ _ HRUN.out ?_)
        go_roundw
        case rel => exact ⟨i + 1, sp, by omega, by go_num, rfl, by omega, hsp2, HROW2, hbel2⟩
        case measure => first | (simp [intOf]; done) | (simp [intOf]; omega)
      have HROW2 : Aside (wr.ownsRow w5.heap.size 9 1 (.slice Ag G capg) (givenOf (acts.take (i + 1))).length (cstr (givenOf (acts.take (i + 1))))) := ⟨by
        rw [eg.out, if_neg hx1, List.append_nil, ← HGE.out]
        exact HROW.out⟩
      clear HROW eg
      by_cases hx6 : x0 = 6
      · subst hx6
        have hsp2 : Aside (sp + 1 = spoilt (acts.take (i + 1))) := ⟨by rw [es.out, if_pos rfl, ← hsp.out]⟩
        clear es
        go_wp2_with fail
        go_roundw
        case rel => exact ⟨i + 1, sp + 1, by omega, by go_num, by go_num, by omega, hsp2, HROW2, hbel⟩
        case measure => first | (simp [intOf]; done) | (simp [intOf]; omega)
      have hsp2 : Aside (sp = spoilt (acts.take (i + 1))) := ⟨by rw [es.out, if_neg hx6]; exact hsp.out⟩
      clear es
      go_wp2_with fail
      go_roundw
      case rel => exact ⟨i + 1, sp, by omega, by go_num, rfl, by omega, hsp2, HROW2, hbel⟩
      case measure => first | (simp [intOf]; done) | (simp [intOf]; omega)
    obtain rfl : i = N := by omega
    have etk : acts.take i = acts := by rw [HN.out, List.take_length]
    rw [etk] at hsp HGE HROW
    clear etk
    have belz : Aside (Below w.heap.size w wr) := ⟨below_later bel0.out hbel.out⟩
    by_cases hsp1 : (1 : Int) < (sp : Int)
    · go_wp2_with fail
      go_ret
      exact ⟨rfl, belz.out⟩
    have hns : ¬ (1 : Int) < (sp : Int) := hsp1
    obtain ⟨given, hgv⟩ : ∃ l, l = givenOf acts := ⟨_, rfl⟩
    have hgvlt : ∀ q, (Value.slice Ag G capg).ownBlock = some q → w5.heap.size ≤ q := fun q hq => (own_lt HROW.out hq).1
    have l25 : w2.heap.size < w5.heap.size := K8.out.lt
    have HE0 : Aside (EndAt w wr w2.heap.size given (.slice Ag G capg) (.slice A5 i cap5) acts) := ⟨by
      refine ⟨HAT5.out.below hbel.out, ?_, fun h => ?_, fun q hq h => ?_, fun h => ?_, by omega, HALL.out, hgv.symm, by have := hsp.out; omega, belz.out⟩
      · have hr := HROW.out
        rw [← hgv] at hr HGE
        rw [HGE.out] at hr ⊢
        exact own_lower hr bel0.out.size
      · have := hAlt.out _ h; omega
      · have := hgvlt q hq; have := hAlt.out _ h; have := HB5.out.size; omega
      · have := hgvlt _ h; omega⟩
    have HGL : Aside (G = given.length) := ⟨by rw [hgv]; exact HGE.out⟩
    have K9 := Aside.mk (K8.out.below hbel.out)
    obtain ⟨e1, e2, e3, e4, e5⟩ := repK_parts HREP.out
    have HK0 : Aside (∃ (D1 D2 : Option Addr) (d1 d2 : Nat) (z1 z2 nt0 : Nat), Blk wr w2.heap.size 30 [.int .i64 z1, .int .i64 ((runK W acts).acked : Nat), .int .i64 z2, .slice D1 nt0 d1, .slice D2 (runK W acts).way.length d2]) := ⟨by
      refine ⟨B1, B2, c1, c2, (runK W acts).given.length, (runK W acts).packed, nt, ?_⟩
      have h := K9.out
      rw [e1, e2, e3, HNW.out, e5] at h
      exact h⟩
    have HN0 : Aside (acts.length = i) := ⟨HN.out.symm⟩
    obtain ⟨g5, hg5⟩ : ∃ g5, g5 = w2.heap.size := ⟨_, rfl⟩
    rw [← hg5] at HE0 HK0
    have HG5 := Aside.mk hg5
    clear K8 K9 hg5 e1 e2 e3 e4 e5 hgvlt hbel belz HREP hgv HGE HROW HAT5 l25 HB5 h12
    go_wp2_with fail
    try rw [← HG5.out]
    go_loopw [4] (fun v wx => ∃ (acts : List ALinkAct), acts.length ≤ 400 ∧ Aside (EndAt w wx g5 given (.slice Ag G capg) v acts) ∧ Aside (∃ (D1 D2 : Option Addr) (d1 d2 : Nat) (z1 z2 nt0 : Nat), Blk wx g5 30 [.int .i64 z1, .int .i64 ((runK W acts).acked : Nat), .int .i64 z2, .slice D1 nt0 d1, .slice D2 (runK W acts).way.length d2])) (fun v _ => 500 - sliceLen v)
    case atStart => exact ⟨acts, by rw [HN0.out]; omega, HE0, HK0⟩
    case round =>
      rename_i v _
      obtain ⟨as2, hl2, hend, hbox⟩ := hrel
      clear HE0 HK0
      obtain ⟨D1, D2, d1, d2, z1, z2, nt0, hbox⟩ := hbox.out
      obtain ⟨A6, cap6, rfl, hcap6, -⟩ := own_shape hend.out.row.own
      obtain ⟨M, hM⟩ : ∃ M, M = as2.length := ⟨_, rfl⟩
      have HM := Aside.mk hM
      rw [← hM] at hend hcap6 hl2 ⊢
      clear hM
      have hok2 := LkOK.run W as2 hend.out.ok as2.length (Nat.le_refl _)
      rw [List.take_length, ← HM.out] at hok2
      have FO := firstOK W as2 hend.out.ok (by rw [← HM.out]; omega) hend.out.sp
      rw [hend.out.gvn] at FO
      obtain ⟨s, hs⟩ : ∃ s, s = runK W as2 := ⟨_, rfl⟩
      rw [← hs] at hbox FO hok2
      have HS := Aside.mk hs
      have hwl : s.way.length ≤ 100 := hok2.way
      have hak : s.acked ≤ given.length := Nat.le_trans FO.a FO.t
      rw [← HGL.out] at hak
      obtain ⟨ak, hakd⟩ : ∃ x, x = s.acked := ⟨_, rfl⟩
      obtain ⟨wl, hwld⟩ : ∃ x, x = s.way.length := ⟨_, rfl⟩
      rw [← hakd] at hbox hak
      rw [← hwld] at hbox hwl
      have HAK := Aside.mk hakd
      have HWL := Aside.mk hwld
      have FOA := Aside.mk FO
      have HBOX := Aside.mk hbox
      have belr := Aside.mk hend.out.bel
      have y1 := hbox.cell 1
      have y4 := hbox.cell 4
      simp only [List.getElem?_cons_zero, List.getElem?_cons_succ] at y1 y4
      clear hs hakd hwld hok2 FO hbox
      by_cases cont : (ak : Int) < G ∨ 0 < (wl : Int)
      · by_cases hfull : (400 : Int) < (M : Int) + wl + 1
        · by_cases ca : (ak : Int) < G
          · go_wp2_with fail
            go_ret
            exact ⟨rfl, belr.out⟩
          · have cw : 0 < (wl : Int) := by omega
            go_wp2_with fail
            go_ret
            exact ⟨rfl, belr.out⟩
        have hfull2 : M + wl + 1 ≤ 400 := by omega
        have hMs : Aside (M + (if wl = 0 then 1 else wl) ≤ 400) := ⟨by split <;> omega⟩
        have EIN : Aside (EndAt w wr g5 given (.slice Ag G capg) (.slice A6 M cap6) as2) := hend
        have KIN := HBOX
        clear hend HBOX
        have cont2 : ¬ (ak : Int) < G → 0 < (wl : Int) := fun h => cont.elim (fun h2 => absurd h2 h) id
        have HCONT := Aside.mk cont2
        clear cont cont2
        by_cases ca : (ak : Int) < G
        rotate_left
        · have cw : 0 < (wl : Int) := HCONT.out ca
          have cwn : ¬ (wl : Int) = 0 := by omega
          have cwb : ((wl : Int) == 0) = false := by simpa using cwn
          go_wp2_with fail
          go_loopw [4, 11] (fun v iv wx => ∃ (i : Nat) (as3 : List ALinkAct), i ≤ wl ∧ iv = .int .i64 i ∧ Aside (as3.length = M + i) ∧ Aside (EndAt w wx g5 given (.slice Ag G capg) v as3) ∧ Aside (Blk wx g5 30 [.int .i64 z1, .int .i64 (ak : Nat), .int .i64 z2, .slice D1 nt0 d1, .slice D2 wl d2])) (fun _ iv _ => wl - (intOf iv).toNat)
          case atStart => exact ⟨0, as2, Nat.zero_le _, rfl, ⟨HM.out.symm⟩, EIN, KIN⟩
          case round =>
            rename_i v3 _ _
            obtain ⟨i3, as3, hi3, rfl, hl3, hend3, hbox3⟩ := hrel
            clear EIN KIN y1 y4
            obtain ⟨A7, cap7, rfl, hcap7, -⟩ := own_shape hend3.out.row.own
            obtain ⟨M3, hM3⟩ : ∃ M3, M3 = as3.length := ⟨_, rfl⟩
            have HM3 := Aside.mk hM3
            have hM34 : M3 ≤ 400 := by have := hl3.out; omega
            rw [← hM3] at hend3 hcap7 ⊢
            clear hM3
            by_cases hlt3 : i3 < wl
            · have hli3 : (i3 : Int) < wl := by omega
              obtain ⟨w8, A8, cap8, hrun, he8, hk8⟩ := hend3.out.app takeAct actB_take (show ByteArray.size ⟨#[]⟩ ≤ 1001 by decide) (given_take _) (spoilt_take _) hbox3.out HM3.out (by omega)
              dsimp only [takeAct] at hrun
              have HRUN := Aside.mk hrun
              have HE8 := Aside.mk he8
              have HK8 := Aside.mk hk8
              clear hrun he8 hk8 hend3 hbox3
              go_wp2_with (at_builtin; refine Go.Lib.wpList_append_run _ rfl _ _ _ _ rfl _ _ rfl rfl _ _ HRUN.out ?_)
              go_roundw
              case rel => exact ⟨i3 + 1, as3 ++ [takeAct], by omega, by go_num, ⟨by rw [List.length_append, hl3.out]; rfl⟩, HE8, HK8⟩
              case measure => first | (simp [intOf]; done) | (simp [intOf]; omega)
            obtain rfl : i3 = wl := by omega
            have cw0 : ¬ i3 = 0 := by omega
            have ci : ¬ (i3 : Int) = 0 := by omega
            have cib : ((i3 : Int) == 0) = false := by simpa using ci
            have hlen4 : (as3).length ≤ 400 := by have := hl3.out; omega
            have hrs := end_rep hW1 hW16 hlen4 hend3.out.ok
            obtain ⟨s4, hs4⟩ : ∃ s, s = runK W (as3) := ⟨_, rfl⟩
            rw [← hs4] at hrs
            have HRS := Aside.mk hrs
            have HS4 := Aside.mk hs4
            have HL4 := Aside.mk hlen4
            clear hrs hs4 hlen4
            go_wp2_with fail
            refine (sLinkRun W (as3) (.slice A7 (M3) cap7) wr (hend3.out.row.old (Below.refl _ _)) (hend3.out.row.wt (Nat.le_trans HL4.out (by decide)))).mono ?_
            rw [HRS.out]
            rintro e w9 ⟨cs, rfl, hr, hb⟩
            dsimp only at hr ⊢
            obtain ⟨D3, d3, D4, d4, rfl, -, -⟩ := report_open hr
            dsimp only [repK] at hr ⊢
            have HE9 := Aside.mk (hend3.out.below hb)
            have HK9 := Aside.mk (hbox3.out.below hb)
            clear hr hb
            go_wp2_with (refine wpList_store_blk rfl 30 _ _ rfl g5 [.int .i64 s4.given.length, .int .i64 s4.acked, .int .i64 s4.packed, .slice D3 s4.taken.length d3, .slice D4 s4.way.length d4] rfl rfl 30 _ HK9.out (by kernel_rfl) rfl rfl ?_; intro w10 k10 hg10; have K10 := Aside.mk k10; have HE10 := Aside.mk (HE9.out.box hg10); clear k10 hg10)
            go_roundw
            case rel => exact ⟨_, _, _, _, _, _, _, _, _, _, _, _, _, _, _, _, _, _, _, _, _, _, _, _, _, _, _, _, _, _, _, _, _, _, _, _, _, _, _, _, _, _, _, _, _, ⟨as3, HL4.out, HE10, ⟨D3, D4, d3, d4, _, _, _, by rw [← HS4.out]; exact K10.out⟩⟩, rfl⟩
            case measure =>
              have hm3 := HM3.out
              have hl3b := hl3.out
              change 500 - M3 < 500 - M
              omega
        · clear HCONT
          go_wp2_with fail
          go_loopw [4, 11] (fun v iv wx => ∃ (i : Nat) (as3 : List ALinkAct), i ≤ wl ∧ iv = .int .i64 i ∧ Aside (as3.length = M + i) ∧ Aside (EndAt w wx g5 given (.slice Ag G capg) v as3) ∧ Aside (Blk wx g5 30 [.int .i64 z1, .int .i64 (ak : Nat), .int .i64 z2, .slice D1 nt0 d1, .slice D2 wl d2])) (fun _ iv _ => wl - (intOf iv).toNat)
          case atStart => exact ⟨0, as2, Nat.zero_le _, rfl, ⟨HM.out.symm⟩, EIN, KIN⟩
          case round =>
            rename_i v3 _ _
            obtain ⟨i3, as3, hi3, rfl, hl3, hend3, hbox3⟩ := hrel
            clear EIN KIN y1 y4
            obtain ⟨A7, cap7, rfl, hcap7, -⟩ := own_shape hend3.out.row.own
            obtain ⟨M3, hM3⟩ : ∃ M3, M3 = as3.length := ⟨_, rfl⟩
            have HM3 := Aside.mk hM3
            have hM34 : M3 ≤ 400 := by have := hl3.out; omega
            rw [← hM3] at hend3 hcap7 ⊢
            clear hM3
            by_cases hlt3 : i3 < wl
            · have hli3 : (i3 : Int) < wl := by omega
              obtain ⟨w8, A8, cap8, hrun, he8, hk8⟩ := hend3.out.app takeAct actB_take (show ByteArray.size ⟨#[]⟩ ≤ 1001 by decide) (given_take _) (spoilt_take _) hbox3.out HM3.out (by omega)
              dsimp only [takeAct] at hrun
              have HRUN := Aside.mk hrun
              have HE8 := Aside.mk he8
              have HK8 := Aside.mk hk8
              clear hrun he8 hk8 hend3 hbox3
              go_wp2_with (at_builtin; refine Go.Lib.wpList_append_run _ rfl _ _ _ _ rfl _ _ rfl rfl _ _ HRUN.out ?_)
              go_roundw
              case rel => exact ⟨i3 + 1, as3 ++ [takeAct], by omega, by go_num, ⟨by rw [List.length_append, hl3.out]; rfl⟩, HE8, HK8⟩
              case measure => first | (simp [intOf]; done) | (simp [intOf]; omega)
            obtain rfl : i3 = wl := by omega
            by_cases cw0 : i3 = 0
            · obtain ⟨w8, A8, cap8, hrun, he8, hk8⟩ := hend3.out.app tickAct actB_tick (show ByteArray.size ⟨#[]⟩ ≤ 1001 by decide) (given_tick _) (spoilt_tick _) hbox3.out HM3.out (by omega)
              dsimp only [tickAct] at hrun
              have HRUN := Aside.mk hrun
              have HE8 := Aside.mk he8
              have HK8 := Aside.mk hk8
              clear hrun he8 hk8 hend3 hbox3
              subst cw0
              have hlen4 : (as3 ++ [tickAct]).length ≤ 400 := by rw [List.length_append]; have := hl3.out; simp; omega
              have hrs := end_rep hW1 hW16 hlen4 HE8.out.ok
              obtain ⟨s4, hs4⟩ : ∃ s, s = runK W (as3 ++ [tickAct]) := ⟨_, rfl⟩
              rw [← hs4] at hrs
              have HRS := Aside.mk hrs
              have HS4 := Aside.mk hs4
              have HL4 := Aside.mk hlen4
              clear hrs hs4 hlen4
              go_wp2_with (at_builtin; refine Go.Lib.wpList_append_run _ rfl _ _ _ _ rfl _ _ rfl rfl _ _ HRUN.out ?_)
              refine (sLinkRun W (as3 ++ [tickAct]) (.slice A8 (M3 + 1) cap8) w8 (HE8.out.row.old (Below.refl _ _)) (HE8.out.row.wt (Nat.le_trans HL4.out (by decide)))).mono ?_
              rw [HRS.out]
              rintro e w9 ⟨cs, rfl, hr, hb⟩
              dsimp only at hr ⊢
              obtain ⟨D3, d3, D4, d4, rfl, -, -⟩ := report_open hr
              dsimp only [repK] at hr ⊢
              have HE9 := Aside.mk (HE8.out.below hb)
              have HK9 := Aside.mk (HK8.out.below hb)
              clear hr hb
              go_wp2_with (refine wpList_store_blk rfl 30 _ _ rfl g5 [.int .i64 s4.given.length, .int .i64 s4.acked, .int .i64 s4.packed, .slice D3 s4.taken.length d3, .slice D4 s4.way.length d4] rfl rfl 30 _ HK9.out (by kernel_rfl) rfl rfl ?_; intro w10 k10 hg10; have K10 := Aside.mk k10; have HE10 := Aside.mk (HE9.out.box hg10); clear k10 hg10)
              go_roundw
              case rel => exact ⟨_, _, _, _, _, _, _, _, _, _, _, _, _, _, _, _, _, _, _, _, _, _, _, _, _, _, _, _, _, _, _, _, _, _, _, _, _, _, _, _, _, _, _, _, _, ⟨as3 ++ [tickAct], HL4.out, HE10, ⟨D3, D4, d3, d4, _, _, _, by rw [← HS4.out]; exact K10.out⟩⟩, rfl⟩
              case measure =>
                have hm3 := HM3.out
                have hl3b := hl3.out
                change 500 - (M3 + 1) < 500 - M
                omega
            have ci : ¬ (i3 : Int) = 0 := by omega
            have cib : ((i3 : Int) == 0) = false := by simpa using ci
            have hlen4 : (as3).length ≤ 400 := by have := hl3.out; omega
            have hrs := end_rep hW1 hW16 hlen4 hend3.out.ok
            obtain ⟨s4, hs4⟩ : ∃ s, s = runK W (as3) := ⟨_, rfl⟩
            rw [← hs4] at hrs
            have HRS := Aside.mk hrs
            have HS4 := Aside.mk hs4
            have HL4 := Aside.mk hlen4
            clear hrs hs4 hlen4
            go_wp2_with fail
            refine (sLinkRun W (as3) (.slice A7 (M3) cap7) wr (hend3.out.row.old (Below.refl _ _)) (hend3.out.row.wt (Nat.le_trans HL4.out (by decide)))).mono ?_
            rw [HRS.out]
            rintro e w9 ⟨cs, rfl, hr, hb⟩
            dsimp only at hr ⊢
            obtain ⟨D3, d3, D4, d4, rfl, -, -⟩ := report_open hr
            dsimp only [repK] at hr ⊢
            have HE9 := Aside.mk (hend3.out.below hb)
            have HK9 := Aside.mk (hbox3.out.below hb)
            clear hr hb
            go_wp2_with (refine wpList_store_blk rfl 30 _ _ rfl g5 [.int .i64 s4.given.length, .int .i64 s4.acked, .int .i64 s4.packed, .slice D3 s4.taken.length d3, .slice D4 s4.way.length d4] rfl rfl 30 _ HK9.out (by kernel_rfl) rfl rfl ?_; intro w10 k10 hg10; have K10 := Aside.mk k10; have HE10 := Aside.mk (HE9.out.box hg10); clear k10 hg10)
            go_roundw
            case rel => exact ⟨_, _, _, _, _, _, _, _, _, _, _, _, _, _, _, _, _, _, _, _, _, _, _, _, _, _, _, _, _, _, _, _, _, _, _, _, _, _, _, _, _, _, _, _, _, ⟨as3, HL4.out, HE10, ⟨D3, D4, d3, d4, _, _, _, by rw [← HS4.out]; exact K10.out⟩⟩, rfl⟩
            case measure =>
              have hm3 := HM3.out
              have hl3b := hl3.out
              change 500 - M3 < 500 - M
              omega
      · have ca : ¬ (ak : Int) < G := fun h => cont (Or.inl h)
        have cw : ¬ 0 < (wl : Int) := fun h => cont (Or.inr h)
        have cw0 : wl = 0 := by omega
        obtain ⟨htk, hak2⟩ := all_taken FOA.out (by have := HAK.out; have := HGL.out; omega)
        have hrs := end_rep hW1 hW16 (by rw [← HM.out]; exact hl2) hend.out.ok
        rw [← HS.out] at hrs
        have HRS := Aside.mk hrs
        have HTK := Aside.mk htk
        have e1 : s.given.length = G := by rw [FOA.out.g]; exact HGL.out.symm
        have e2 : s.acked = G := by rw [hak2]; exact HGL.out.symm
        have e3 : s.taken.length = G := by rw [htk]; exact HGL.out.symm
        have e4 : s.way.length = 0 := by rw [← HWL.out]; exact cw0
        have E1 := Aside.mk e1
        have E2 := Aside.mk e2
        have E3 := Aside.mk e3
        have E4 := Aside.mk e4
        clear cont hrs htk hak2 e1 e2 e3 e4 hak hwl
        go_wp2_with fail
        refine (iLinkRun W as2 (.slice A6 M cap6) wr (hend.out.row.old (Below.refl _ _)) (hend.out.row.wt (by rw [← HM.out]; omega))).mono ?_
        rw [HRS.out]
        rintro e w6 ⟨ds, rfl, hr, hb⟩
        dsimp only at hr ⊢
        obtain ⟨D3, d3, D4, d4, rfl, -, -⟩ := report_open hr
        have hr2 := RLinkReport.up hr (fun b hb => hb.2) (Below.refl _ _)
        obtain ⟨P1, p1, P2, p2, eP, hts, -⟩ := report_open hr2
        dsimp only [repK] at hr eP hts ⊢
        have hsl : SlOf Rec.str.k (Rec.str.rd False w6) False w6 (Old w6) s.taken D3 := by
          simp only [List.cons.injEq, Value.slice.injEq] at eP
          obtain ⟨-, -, -, ⟨eP1, -, -⟩, -⟩ := eP
          obtain ⟨_, _, eQ, -, hsl⟩ := hts
          simp only [List.cons.injEq, Value.slice.injEq] at eQ
          rw [eP1, eQ.1.1]
          exact hsl
        clear hr2 eP hts
        rw [E1.out, E2.out, E3.out, E4.out]
        have HEN := Aside.mk (hend.out.below hb)
        have HSL := Aside.mk hsl
        clear hr hb hsl hend y1 y4
        go_wp2_with fail
        obtain ⟨w7, hw7⟩ : ∃ x, x = w6.alloc (.cells #[.int .i64 G, .int .i64 G, .int .i64 (s.packed : Nat), .slice D3 G d3, .slice D4 0 d4] 30) := ⟨_, rfl⟩
        rw [← hw7]
        have hb67 : Below w6.heap.size w6 w7 := by rw [hw7]; exact (Below.refl _ _).alloc (Nat.le_refl _) _
        have K7 : Aside (Blk w7 w6.heap.size 30 [.int .i64 G, .int .i64 G, .int .i64 (s.packed : Nat), .slice D3 G d3, .slice D4 0 d4]) := ⟨by rw [hw7]; exact Blk.new w6 _ _⟩
        have HE7 := Aside.mk (HEN.out.below hb67)
        have HB67 := Aside.mk hb67
        clear hw7 HEN hb67
        have y0 := K7.out.cell 0
        have y1 := K7.out.cell 1
        have y3 := K7.out.cell 3
        have y4 := K7.out.cell 4
        simp only [List.getElem?_cons_zero, List.getElem?_cons_succ] at y0 y1 y3 y4
        go_wp2_with fail
        clear y0 y1 y3 y4
        go_loopw [14] (fun jv wx => ∃ j : Nat, j ≤ G ∧ jv = .int .i64 j ∧ Aside (Below w7.heap.size w7 wx)) (fun jv _ => G - (intOf jv).toNat)
        case atStart => exact ⟨0, Nat.zero_le _, rfl, ⟨Below.refl _ _⟩⟩
        case round =>
          obtain ⟨j, hj, rfl, hbj⟩ := hrel
          have HE10 := Aside.mk (HE7.out.below hbj.out)
          have K10 := Aside.mk (K7.out.below hbj.out)
          have y3 := K10.out.cell 3
          simp only [List.getElem?_cons_zero, List.getElem?_cons_succ] at y3
          have lk : w6.heap.size < wr.heap.size := K10.out.lt
          by_cases hjt : j < G
          · have hji : (j : Int) < G := by omega
            have hjt1 : j < s.taken.length := by rw [E3.out]; exact hjt
            have hjl : j < given.length := by rw [← HGL.out]; exact hjt
            obtain ⟨b1, o1, rfl, l1, d1'⟩ := str_at HSL.out (below_later HB67.out hbj.out) j hjt1
            have HRW : Aside (wr.ownsRow w.heap.size 9 1 (.slice Ag G capg) G (cstr given)) := ⟨by have := HE10.out.gvr; rwa [← HGL.out] at this⟩
            obtain ⟨b2, rfl, -, -, -, -⟩ := own_addr HRW.out (by omega)
            have d2' := strs_at HE10.out.gvr j hjl
            have l2 := strs_lt HRW.out
            have hEQ : s.taken[j] = given[j] := by simp only [HTK.out]
            rw [hEQ] at d1'
            obtain ⟨x, hx⟩ : ∃ x, x = given[j] := ⟨_, rfl⟩
            rw [← hx] at d1' d2'
            have hb9 := Aside.mk hbj.out.drew
            clear hx hEQ hbj
            go_wp2_with fail
            refine region_env [(0, true), (1, true), (2, true), (3, true), (4, true), (5, true), (6, true), (7, true), (8, true), (9, true)] (fun w' => Below wr.heap.size wr w') 159 rfl (by kernel_rfl) (by kernel_rfl) (fun _ _ d _ _ h => by cases d <;> exact h) ((Below.refl _ _).drew) (fun ops fr HFR HSZ hl => ?_)
            have hl_0 := ops_start hl
            clear hl
            obtain ⟨H0, hl_1⟩ := ops_next 0 1 rfl hl_0
            clear hl_0
            obtain ⟨H1, hl_2⟩ := ops_next 1 2 rfl hl_1
            clear hl_1
            obtain ⟨H2, hl_3⟩ := ops_next 2 3 rfl hl_2
            clear hl_2
            obtain ⟨H3, hl_4⟩ := ops_next 3 4 rfl hl_3
            clear hl_3
            obtain ⟨H4, hl_5⟩ := ops_next 4 5 rfl hl_4
            clear hl_4
            obtain ⟨H5, hl_6⟩ := ops_next 5 6 rfl hl_5
            clear hl_5
            obtain ⟨H6, hl_7⟩ := ops_next 6 7 rfl hl_6
            clear hl_6
            obtain ⟨H7, hl_8⟩ := ops_next 7 8 rfl hl_7
            clear hl_7
            obtain ⟨H8, hl_9⟩ := ops_next 8 9 rfl hl_8
            clear hl_8
            obtain ⟨H9, hl_10⟩ := ops_next 9 10 rfl hl_9
            clear hl_9
            clear hl_10
            have x_12 : ext fr 12 = _ := congrArg (fun a => Act.eval a (.tmp 12)) HFR.out
            conv at x_12 => rhs; simp only [Act.eval, Array.getD_eq_getD_getElem?, List.getElem?_toArray, List.getElem?_cons_succ, List.getElem?_cons_zero, Option.getD_some]
            have x_14 : ext fr 14 = _ := congrArg (fun a => Act.eval a (.tmp 14)) HFR.out
            conv at x_14 => rhs; simp only [Act.eval, Array.getD_eq_getD_getElem?, List.getElem?_toArray, List.getElem?_cons_succ, List.getElem?_cons_zero, Option.getD_some]
            have x_7 : ext fr 7 = _ := congrArg (fun a => Act.eval a (.tmp 7)) HFR.out
            conv at x_7 => rhs; simp only [Act.eval, Array.getD_eq_getD_getElem?, List.getElem?_toArray, List.getElem?_cons_succ, List.getElem?_cons_zero, Option.getD_some]
            refine env_yes HSZ H0.out ?_ (fun w' hS => ?_) ?_
            rotate_left
            (go_simp
             rfl)
            refine env_yes HSZ H1.out ?_ (fun w' hS => ?_) ?_
            rotate_left
            (have h := (hS.cell (p := ⟨w6.heap.size, 3, none⟩) lk).trans y3
             go_simp
             rfl)
            refine env_yes HSZ H2.out ?_ (fun w' hS => ?_) ?_
            rotate_left
            (go_simp
             rfl)
            refine env_yes HSZ H3.out ?_ (fun w' hS => ?_) ?_
            rotate_left
            (go_simp
             rfl)
            refine env_yes HSZ H4.out ?_ (fun w' hS => ?_) ?_
            rotate_left
            (have h := (hS.cell (p := ⟨b1, o1 + j, none⟩) l1).trans d1'
             go_simp
             rfl)
            refine env_yes HSZ H5.out ?_ (fun w' hS => ?_) ?_
            rotate_left
            (go_simp
             rfl)
            refine env_yes HSZ H6.out ?_ (fun w' hS => ?_) ?_
            rotate_left
            (go_simp
             rfl)
            refine env_yes HSZ H7.out ?_ (fun w' hS => ?_) ?_
            rotate_left
            (go_simp
             rfl)
            refine env_yes HSZ H8.out ?_ (fun w' hS => ?_) ?_
            rotate_left
            (have h := (hS.cell (p := ⟨b2, j, none⟩) l2).trans d2'
             go_simp
             rfl)
            refine env_yes HSZ H9.out ?_ (fun w' hS => ?_) ?_
            rotate_left
            (go_simp
             rfl)
            refine env_end ?_
            have hfr := HFR.out
            clear HFR HSZ H0 H1 H2 H3 H4 H5 H6 H7 H8 H9 x_12 x_14 x_7
            subst hfr
            simp only [putAll, Act.put, List.setIfInBounds_toArray, List.set_cons_succ, List.set_cons_zero]
            go_wp2_with fail
            go_roundw
            case rel => exact ⟨j + 1, by omega, by go_num, hb9⟩
            case measure => first | (simp [intOf]; done) | (simp [intOf]; omega)
          · obtain rfl : j = G := by omega
            go_wp2_with fail
            go_ret
            exact ⟨rfl, HE10.out.bel⟩
end Go.Proofs.Ytlopbheahedofaa.Fn
