/- Walks of what a link does with a packet that comes, both sides. Conditions: those of each theorem. -/
import Derived.Test.YtlopbheahedofaaLink3
set_option linter.unusedVariables false
namespace Go.Proofs.Ytlopbheahedofaa.Fn
open Go Go.RowKit Go.Proofs.Ytlopbheahedofaa.Lib Go.Proofs.Ytlopbheahedofaa.Plan
attribute [local go_sem] look_tmp look_const look_func look_global lookT_nil lookT_hit lookT_miss

set_option maxRecDepth 100000 in
set_option maxHeartbeats 8000000 in
theorem iHear (base g win : Nat) (s : Lk) (p : Bool × ByteArray) (w : World) (h : LkAt w base g 61 win s) (hl : s.way.length ≤ 100) (hn : s.taken.length ≤ 1000000) (ha : s.acked ≤ s.packed) (hp : s.packed ≤ 1000000) (hd : p.2.size ≤ 140737488355328) :
    Calls Try.prog 46 #[.pointer (some ⟨g, 0, none⟩), .agg #[.bool p.1, .string p.2]] w fun e w' => e = .returned (.tuple #[]) ∧ LkAt w' base g 61 win (arrK p s) ∧ Below base w w' := by
  obtain ⟨p1, p2⟩ := p
  change p2.size ≤ 140737488355328 at hd
  obtain ⟨vg, vt, vw, hv⟩ := h
  obtain ⟨A, cap, rfl, hcap, -⟩ := own_shape hv.ot
  have lg : g < w.heap.size := hv.blk.lt
  have HW := Aside.mk hv
  have HL := Aside.mk hl
  have HD := Aside.mk hd
  obtain ⟨s3, hs3⟩ : ∃ x, x = arrK (p1, p2) s := ⟨_, rfl⟩
  rw [← hs3]
  have HS3 := Aside.mk hs3
  clear hv hl hd hs3
  show Calls Try.prog 46 #[.pointer (some ⟨g, 0, none⟩), .agg #[.bool p1, .string p2]] w _
  go_enter Try.func46, Try.ntmps46
  go_wp2_with fail
  refine (iUnseal p2 _ HD.out).mono ?_
  rintro e w1 ⟨rfl, hb1⟩
  have bel : Below w.heap.size w w1 := below_later (by go_grown) hb1
  have HV := Aside.mk (HW.out.below bel)
  have K1 := Aside.mk ((Blk.new w 63 [.bool p1, .string p2]).below hb1)
  have BB : Aside (Below base w w1) := ⟨bel.mono HW.out.lt⟩
  obtain ⟨gp, hgp⟩ : ∃ x, x = w.heap.size := ⟨_, rfl⟩
  rw [← hgp] at K1 ⊢
  have p0 : w1.cell? ⟨gp, 0, none⟩ = some (.bool p1) := K1.out.cell 0
  have lgp : g < gp := by omega
  clear hb1 bel hgp
  by_cases hu : UnsealOK p2
  rotate_left
  · have E : Aside (s3 = s) := ⟨HS3.out.trans (if_neg hu)⟩
    rw [unsealV_no hu]
    clear hu
    go_wp2_with fail
    go_end0
    exact ⟨rfl, by rw [E.out]; exact ⟨_, _, _, HV.out⟩, BB.out⟩
  have E : Aside (s3 = if p1 = false ∧ kindOf p2 = 1 then putK (true, sealed 2 (tookK (p1, p2) s).taken.length ⟨#[]⟩) (tookK (p1, p2) s) else if p1 = true ∧ kindOf p2 = 2 ∧ countOf p2 ≤ (s.packed : Int) then { s with acked := max s.acked (countOf p2).toNat } else s) := ⟨HS3.out.trans (if_pos hu)⟩
  have HT : Aside (tookK (p1, p2) s = if countOf p2 = (s.taken.length : Int) then { s with taken := s.taken ++ [bodyOf p2] } else s) := ⟨rfl⟩
  generalize tookK (p1, p2) s = s2 at E HT
  clear HS3
  have hk12 : kindOf p2 = 1 ∨ kindOf p2 = 2 := hu.2.2.1.1
  have hc0 : 0 ≤ countOf p2 := hu.2.2.1.2.1
  have hc1 : countOf p2 ≤ 4294967295 := hu.2.2.1.2.2.1
  rw [unsealV_yes hu]
  clear hu
  generalize kindOf p2 = kd at E hk12 ⊢
  generalize countOf p2 = cn at E HT hc0 hc1 ⊢
  generalize bodyOf p2 = bd at HT ⊢
  obtain ⟨c, rfl⟩ := Int.eq_ofNat_of_zero_le hc0
  have y2 := HV.out.blk.cell 2
  have y3 := HV.out.blk.cell 3
  have y4 := HV.out.blk.cell 4
  have f2 := HV.out.blk.free 2
  simp only [List.getElem?_cons_zero, List.getElem?_cons_succ] at y2 y3 y4
  obtain ⟨m, hm⟩ : ∃ m, m = s.taken.length := ⟨_, rfl⟩
  have HM := Aside.mk hm
  obtain ⟨a, haa⟩ : ∃ a, a = s.acked := ⟨_, rfl⟩
  obtain ⟨q, hqq⟩ : ∃ q, q = s.packed := ⟨_, rfl⟩
  have HAA := Aside.mk haa
  have HQQ := Aside.mk hqq
  rw [← hm] at y4 hn hcap HT
  rw [← haa] at y2 ha E
  rw [← hqq] at y3 ha hp E
  have lg1 : g < w1.heap.size := HV.out.blk.lt
  clear hm haa hqq lg
  rcases hk12 with rfl | rfl
  · cases p1
    · have E2 : Aside (s3 = putK (true, sealed 2 s2.taken.length ⟨#[]⟩) s2) := ⟨by rw [E.out, if_pos ⟨rfl, rfl⟩]⟩
      clear E
      by_cases hcm : c = m
      · subst hcm
        have E3 : Aside (s2 = { s with taken := s.taken ++ [bd] }) := ⟨by rw [HT.out, if_pos rfl]⟩
        obtain ⟨j0, hj0, jz0, jz1, jz2⟩ := info_parts infoStr
        have OWN : w1.ownsRow base 9 1 (.slice A c cap) c (cstr s.taken) := by have := HV.out.ot; rwa [← HM.out] at this
        obtain ⟨w8, A8, cap8, hrun, hown, hkeep, hb8, hnew, hs8, hc8⟩ := own_app (P := Try.prog) (t := 27) j0 _ Try.underlying27 hj0 jz0 jz1 jz2 rfl (by decide) OWN [.string bd] rfl (fun u hu => by simp at hu; subst hu; rfl) (by unfold maxLen; omega) (by omega) HV.out.lt
        have hgt : (Value.slice A c cap).ownBlock ≠ some g := fun h => HV.out.gt g (by rw [← HM.out]; exact h) rfl
        have hg8 : (Value.slice A8 (c + 1) cap8).ownBlock ≠ some g := fun h => by rcases hnew with e | ⟨bq, e, hq⟩; exact hgt (by rw [← e]; exact h); rw [e] at h; injection h with h; omega
        have hbk : Blk w8 g 61 [.int .i64 win, vg, .int .i64 s.acked, .int .i64 s.packed, .slice A c cap, vw] := by
          have h := HV.out.blk
          rw [← HM.out] at h
          exact (hkeep g lg1 hgt).trans h
        have HZ : Aside (LkAt (w8.setCell ⟨g, 4, none⟩ (.slice A8 (c + 1) cap8)) base g 61 win s2) := ⟨by
          rw [E3.out]
          refine ⟨vg, .slice A8 (c + 1) cap8, vw, HV.out.setTaken (s.taken ++ [bd]) (hbk.set 4 _) ?_ ?_ ?_⟩
          · rw [cstr_snoc] at hown
            rw [List.length_append, ← HM.out]
            exact ownsRow_of_block hown (fun q hq => heap_far (fun e => hg8 (by rw [hq, e])))
          · intro b hb hg hr
            rw [heap_far hg]
            exact hkeep b hb (by rw [HM.out]; exact hr)
          · rw [← HM.out]; exact hnew⟩
        have BZ : Aside (Below base w (w8.setCell ⟨g, 4, none⟩ (.slice A8 (c + 1) cap8))) := ⟨BB.out.trans (hb8.setCell HV.out.hb _)⟩
        have EQ : Aside (s3 = putK (true, sealed 2 ((c : Int) + 1) ⟨#[]⟩) s2) := ⟨by
          rw [E2.out, E3.out]
          show putK (true, sealed 2 (((s.taken ++ [bd]).length : Nat) : Int) ⟨#[]⟩) _ = _
          rw [List.length_append, ← HM.out]; rfl⟩
        have c8 : w8.cell? ⟨g, 4, none⟩ = some (.slice A c cap) := hbk.cell 4
        have f8 := hbk.free 4
        have lg8 : g < w8.heap.size := hbk.lt
        have HRUN := Aside.mk hrun
        have W2 : Aside (s2.way.length ≤ 100) := ⟨by rw [E3.out]; exact HL.out⟩
        clear hj0 jz0 jz1 jz2 OWN hrun hown hkeep hb8 hnew hgt hg8 hbk HT y2 y3 f2 E2 E3
        go_wp2_with (at_builtin; refine Go.Lib.wpList_append_run _ rfl _ _ _ _ rfl _ _ rfl rfl _ _ HRUN.out ?_)
        refine (iSeal_yes 2 ((c : Int) + 1) ⟨#[]⟩ _ ⟨Or.inr rfl, by omega, by omega, by decide⟩).mono ?_
        rintro e w9 ⟨rfl, hb9⟩
        have HB9 := Aside.mk hb9
        have hbz : base ≤ (w8.setCell ⟨g, 4, none⟩ (.slice A8 (c + 1) cap8)).heap.size := by obtain ⟨_, _, _, hh⟩ := HZ.out; exact hh.lt
        clear hb9 c8 f8
        go_wp2_with fail
        refine (iPut base g win s2 (true, sealed 2 ((c : Int) + 1) ⟨#[]⟩) _ (HZ.out.below HB9.out) W2.out).mono ?_
        rintro e w10 ⟨rfl, hk, hb10⟩
        rw [← EQ.out] at hk
        have HK := Aside.mk hk
        have HB10 : Aside (Below base w w10) := ⟨BZ.out.trans ((HB9.out.mono hbz).trans hb10)⟩
        clear hk hb10
        go_wp2_with fail
        go_end0
        exact ⟨rfl, HK.out, HB10.out⟩
      · have hcm2 : ¬ (c : Int) = (m : Int) := by omega
        have E3 : Aside (s2 = s) := ⟨by rw [HT.out, if_neg hcm2]⟩
        have EQ : Aside (s3 = putK (true, sealed 2 (m : Int) ⟨#[]⟩) s2) := ⟨by rw [E2.out, E3.out, ← HM.out]⟩
        have W2 : Aside (s2.way.length ≤ 100) := ⟨by rw [E3.out]; exact HL.out⟩
        have HZ : Aside (LkAt w1 base g 61 win s2) := ⟨by rw [E3.out]; exact ⟨_, _, _, HV.out⟩⟩
        clear HT E2 E3 y2 y3 f2
        go_wp2_with fail
        refine (iSeal_yes 2 (m : Int) ⟨#[]⟩ _ ⟨Or.inr rfl, by omega, by omega, by decide⟩).mono ?_
        rintro e w9 ⟨rfl, hb9⟩
        have HB9 := Aside.mk hb9
        clear hb9
        go_wp2_with fail
        refine (iPut base g win s2 (true, sealed 2 (m : Int) ⟨#[]⟩) _ (HZ.out.below HB9.out) W2.out).mono ?_
        rintro e w10 ⟨rfl, hk, hb10⟩
        rw [← EQ.out] at hk
        have HK := Aside.mk hk
        have HB10 : Aside (Below base w w10) := ⟨BB.out.trans ((HB9.out.mono HV.out.lt).trans hb10)⟩
        clear hk hb10
        go_wp2_with fail
        go_end0
        exact ⟨rfl, HK.out, HB10.out⟩
    · have E2 : Aside (s3 = s) := ⟨by rw [E.out, if_neg (by decide), if_neg (by omega)]⟩
      clear E
      go_wp2_with fail
      go_end0
      exact ⟨rfl, by rw [E2.out]; exact ⟨_, _, _, HV.out⟩, BB.out⟩
  · cases p1
    · have E2 : Aside (s3 = s) := ⟨by rw [E.out, if_neg (by omega), if_neg (by intro h; exact absurd h.1 (by decide))]⟩
      clear E
      go_wp2_with fail
      go_end0
      exact ⟨rfl, by rw [E2.out]; exact ⟨_, _, _, HV.out⟩, BB.out⟩
    · by_cases hcq : (c : Int) ≤ (q : Int)
      rotate_left
      · have E2 : Aside (s3 = s) := ⟨by rw [E.out, if_neg (by intro h; exact absurd h.1 (by decide)), if_neg (by intro h; exact hcq h.2.2)]⟩
        have hcq2 : (q : Int) < c := by omega
        clear E
        have hac : (a : Int) < c := by omega
        go_wp2_with fail
        go_end0
        exact ⟨rfl, by rw [E2.out]; exact ⟨_, _, _, HV.out⟩, BB.out⟩
      have E2 : Aside (s3 = { s with acked := max a c }) := ⟨by rw [E.out, if_neg (by intro h; exact absurd h.1 (by decide)), if_pos ⟨rfl, rfl, hcq⟩, HQQ.out, Int.toNat_natCast]⟩
      clear E
      by_cases hac : (a : Int) < c
      · have E3 : Aside (s3 = { s with acked := c }) := ⟨by rw [E2.out, show max a c = c by omega]⟩
        clear E2
        go_wp2_with fail
        all_goals
          go_end0
          refine ⟨rfl, ?_, BB.out.setCell HV.out.hb _⟩
          rw [E3.out]
          exact ⟨_, _, _, HV.out.setInts c s.packed (HV.out.blk.set 2 _) (fun b hb hg => heap_far hg)⟩
      · have E3 : Aside (s3 = s) := ⟨by rw [E2.out, show max a c = a by omega, HAA.out]⟩
        have hac2 : (c : Int) ≤ a := by omega
        clear E2
        go_wp2_with fail
        all_goals
          go_end0
          rw [E3.out]
          first
            | exact ⟨rfl, ⟨_, _, _, HV.out⟩, BB.out⟩
            | exact ⟨rfl, ⟨_, _, _, HV.out.setInts s.acked s.packed (by have h := HV.out.blk.set 2 (.int .i64 s.acked); rw [HAA.out]; exact h) (fun b hb hg => heap_far hg)⟩, BB.out.setCell HV.out.hb _⟩
set_option maxRecDepth 100000 in
set_option maxHeartbeats 8000000 in
theorem sHear (base g win : Nat) (s : Lk) (p : Bool × ByteArray) (w : World) (h : LkAt w base g 57 win s) (hl : s.way.length ≤ 100) (hn : s.taken.length ≤ 1000000) (ha : s.acked ≤ s.packed) (hp : s.packed ≤ 1000000) (hd : p.2.size ≤ 140737488355328) :
    Calls Try.prog 40 #[.pointer (some ⟨g, 0, none⟩), .agg #[.bool p.1, .string p.2]] w fun e w' => e = .returned (.tuple #[]) ∧ LkAt w' base g 57 win (arrK p s) ∧ Below base w w' := by
  obtain ⟨p1, p2⟩ := p
  change p2.size ≤ 140737488355328 at hd
  obtain ⟨vg, vt, vw, hv⟩ := h
  obtain ⟨A, cap, rfl, hcap, -⟩ := own_shape hv.ot
  have lg : g < w.heap.size := hv.blk.lt
  have HW := Aside.mk hv
  have HL := Aside.mk hl
  have HD := Aside.mk hd
  obtain ⟨s3, hs3⟩ : ∃ x, x = arrK (p1, p2) s := ⟨_, rfl⟩
  rw [← hs3]
  have HS3 := Aside.mk hs3
  clear hv hl hd hs3
  show Calls Try.prog 40 #[.pointer (some ⟨g, 0, none⟩), .agg #[.bool p1, .string p2]] w _
  go_enter Try.func40, Try.ntmps40
  go_wp2_with fail
  refine (sUnseal p2 _ HD.out).mono ?_
  rintro e w1 ⟨rfl, hb1⟩
  have bel : Below w.heap.size w w1 := below_later (by go_grown) hb1
  have HV := Aside.mk (HW.out.below bel)
  have K1 := Aside.mk ((Blk.new w 63 [.bool p1, .string p2]).below hb1)
  have BB : Aside (Below base w w1) := ⟨bel.mono HW.out.lt⟩
  obtain ⟨gp, hgp⟩ : ∃ x, x = w.heap.size := ⟨_, rfl⟩
  rw [← hgp] at K1 ⊢
  have p0 : w1.cell? ⟨gp, 0, none⟩ = some (.bool p1) := K1.out.cell 0
  have lgp : g < gp := by omega
  clear hb1 bel hgp
  by_cases hu : UnsealOK p2
  rotate_left
  · have E : Aside (s3 = s) := ⟨HS3.out.trans (if_neg hu)⟩
    rw [unsealV_no hu]
    clear hu
    go_wp2_with fail
    go_end0
    exact ⟨rfl, by rw [E.out]; exact ⟨_, _, _, HV.out⟩, BB.out⟩
  have E : Aside (s3 = if p1 = false ∧ kindOf p2 = 1 then putK (true, sealed 2 (tookK (p1, p2) s).taken.length ⟨#[]⟩) (tookK (p1, p2) s) else if p1 = true ∧ kindOf p2 = 2 ∧ countOf p2 ≤ (s.packed : Int) then { s with acked := max s.acked (countOf p2).toNat } else s) := ⟨HS3.out.trans (if_pos hu)⟩
  have HT : Aside (tookK (p1, p2) s = if countOf p2 = (s.taken.length : Int) then { s with taken := s.taken ++ [bodyOf p2] } else s) := ⟨rfl⟩
  generalize tookK (p1, p2) s = s2 at E HT
  clear HS3
  have hk12 : kindOf p2 = 1 ∨ kindOf p2 = 2 := hu.2.2.1.1
  have hc0 : 0 ≤ countOf p2 := hu.2.2.1.2.1
  have hc1 : countOf p2 ≤ 4294967295 := hu.2.2.1.2.2.1
  rw [unsealV_yes hu]
  clear hu
  generalize kindOf p2 = kd at E hk12 ⊢
  generalize countOf p2 = cn at E HT hc0 hc1 ⊢
  generalize bodyOf p2 = bd at HT ⊢
  obtain ⟨c, rfl⟩ := Int.eq_ofNat_of_zero_le hc0
  have y2 := HV.out.blk.cell 2
  have y3 := HV.out.blk.cell 3
  have y4 := HV.out.blk.cell 4
  have f2 := HV.out.blk.free 2
  simp only [List.getElem?_cons_zero, List.getElem?_cons_succ] at y2 y3 y4
  obtain ⟨m, hm⟩ : ∃ m, m = s.taken.length := ⟨_, rfl⟩
  have HM := Aside.mk hm
  obtain ⟨a, haa⟩ : ∃ a, a = s.acked := ⟨_, rfl⟩
  obtain ⟨q, hqq⟩ : ∃ q, q = s.packed := ⟨_, rfl⟩
  have HAA := Aside.mk haa
  have HQQ := Aside.mk hqq
  rw [← hm] at y4 hn hcap HT
  rw [← haa] at y2 ha E
  rw [← hqq] at y3 ha hp E
  have lg1 : g < w1.heap.size := HV.out.blk.lt
  clear hm haa hqq lg
  rcases hk12 with rfl | rfl
  · cases p1
    · have E2 : Aside (s3 = putK (true, sealed 2 s2.taken.length ⟨#[]⟩) s2) := ⟨by rw [E.out, if_pos ⟨rfl, rfl⟩]⟩
      clear E
      by_cases hcm : c = m
      · subst hcm
        have E3 : Aside (s2 = { s with taken := s.taken ++ [bd] }) := ⟨by rw [HT.out, if_pos rfl]⟩
        obtain ⟨j0, hj0, jz0, jz1, jz2⟩ := info_parts infoStr
        have OWN : w1.ownsRow base 9 1 (.slice A c cap) c (cstr s.taken) := by have := HV.out.ot; rwa [← HM.out] at this
        obtain ⟨w8, A8, cap8, hrun, hown, hkeep, hb8, hnew, hs8, hc8⟩ := own_app (P := Try.prog) (t := 27) j0 _ Try.underlying27 hj0 jz0 jz1 jz2 rfl (by decide) OWN [.string bd] rfl (fun u hu => by simp at hu; subst hu; rfl) (by unfold maxLen; omega) (by omega) HV.out.lt
        have hgt : (Value.slice A c cap).ownBlock ≠ some g := fun h => HV.out.gt g (by rw [← HM.out]; exact h) rfl
        have hg8 : (Value.slice A8 (c + 1) cap8).ownBlock ≠ some g := fun h => by rcases hnew with e | ⟨bq, e, hq⟩; exact hgt (by rw [← e]; exact h); rw [e] at h; injection h with h; omega
        have hbk : Blk w8 g 57 [.int .i64 win, vg, .int .i64 s.acked, .int .i64 s.packed, .slice A c cap, vw] := by
          have h := HV.out.blk
          rw [← HM.out] at h
          exact (hkeep g lg1 hgt).trans h
        have HZ : Aside (LkAt (w8.setCell ⟨g, 4, none⟩ (.slice A8 (c + 1) cap8)) base g 57 win s2) := ⟨by
          rw [E3.out]
          refine ⟨vg, .slice A8 (c + 1) cap8, vw, HV.out.setTaken (s.taken ++ [bd]) (hbk.set 4 _) ?_ ?_ ?_⟩
          · rw [cstr_snoc] at hown
            rw [List.length_append, ← HM.out]
            exact ownsRow_of_block hown (fun q hq => heap_far (fun e => hg8 (by rw [hq, e])))
          · intro b hb hg hr
            rw [heap_far hg]
            exact hkeep b hb (by rw [HM.out]; exact hr)
          · rw [← HM.out]; exact hnew⟩
        have BZ : Aside (Below base w (w8.setCell ⟨g, 4, none⟩ (.slice A8 (c + 1) cap8))) := ⟨BB.out.trans (hb8.setCell HV.out.hb _)⟩
        have EQ : Aside (s3 = putK (true, sealed 2 ((c : Int) + 1) ⟨#[]⟩) s2) := ⟨by
          rw [E2.out, E3.out]
          show putK (true, sealed 2 (((s.taken ++ [bd]).length : Nat) : Int) ⟨#[]⟩) _ = _
          rw [List.length_append, ← HM.out]; rfl⟩
        have c8 : w8.cell? ⟨g, 4, none⟩ = some (.slice A c cap) := hbk.cell 4
        have f8 := hbk.free 4
        have lg8 : g < w8.heap.size := hbk.lt
        have HRUN := Aside.mk hrun
        have W2 : Aside (s2.way.length ≤ 100) := ⟨by rw [E3.out]; exact HL.out⟩
        clear hj0 jz0 jz1 jz2 OWN hrun hown hkeep hb8 hnew hgt hg8 hbk HT y2 y3 f2 E2 E3
        go_wp2_with (at_builtin; refine Go.Lib.wpList_append_run _ rfl _ _ _ _ rfl _ _ rfl rfl _ _ HRUN.out ?_)
        refine (sSeal_yes 2 ((c : Int) + 1) ⟨#[]⟩ _ ⟨Or.inr rfl, by omega, by omega, by decide⟩).mono ?_
        rintro e w9 ⟨rfl, hb9⟩
        have HB9 := Aside.mk hb9
        have hbz : base ≤ (w8.setCell ⟨g, 4, none⟩ (.slice A8 (c + 1) cap8)).heap.size := by obtain ⟨_, _, _, hh⟩ := HZ.out; exact hh.lt
        clear hb9 c8 f8
        go_wp2_with fail
        refine (sPut base g win s2 (true, sealed 2 ((c : Int) + 1) ⟨#[]⟩) _ (HZ.out.below HB9.out) W2.out).mono ?_
        rintro e w10 ⟨rfl, hk, hb10⟩
        rw [← EQ.out] at hk
        have HK := Aside.mk hk
        have HB10 : Aside (Below base w w10) := ⟨BZ.out.trans ((HB9.out.mono hbz).trans hb10)⟩
        clear hk hb10
        go_wp2_with fail
        go_end0
        exact ⟨rfl, HK.out, HB10.out⟩
      · have hcm2 : ¬ (c : Int) = (m : Int) := by omega
        have E3 : Aside (s2 = s) := ⟨by rw [HT.out, if_neg hcm2]⟩
        have EQ : Aside (s3 = putK (true, sealed 2 (m : Int) ⟨#[]⟩) s2) := ⟨by rw [E2.out, E3.out, ← HM.out]⟩
        have W2 : Aside (s2.way.length ≤ 100) := ⟨by rw [E3.out]; exact HL.out⟩
        have HZ : Aside (LkAt w1 base g 57 win s2) := ⟨by rw [E3.out]; exact ⟨_, _, _, HV.out⟩⟩
        clear HT E2 E3 y2 y3 f2
        go_wp2_with fail
        refine (sSeal_yes 2 (m : Int) ⟨#[]⟩ _ ⟨Or.inr rfl, by omega, by omega, by decide⟩).mono ?_
        rintro e w9 ⟨rfl, hb9⟩
        have HB9 := Aside.mk hb9
        clear hb9
        go_wp2_with fail
        refine (sPut base g win s2 (true, sealed 2 (m : Int) ⟨#[]⟩) _ (HZ.out.below HB9.out) W2.out).mono ?_
        rintro e w10 ⟨rfl, hk, hb10⟩
        rw [← EQ.out] at hk
        have HK := Aside.mk hk
        have HB10 : Aside (Below base w w10) := ⟨BB.out.trans ((HB9.out.mono HV.out.lt).trans hb10)⟩
        clear hk hb10
        go_wp2_with fail
        go_end0
        exact ⟨rfl, HK.out, HB10.out⟩
    · have E2 : Aside (s3 = s) := ⟨by rw [E.out, if_neg (by decide), if_neg (by omega)]⟩
      clear E
      go_wp2_with fail
      go_end0
      exact ⟨rfl, by rw [E2.out]; exact ⟨_, _, _, HV.out⟩, BB.out⟩
  · cases p1
    · have E2 : Aside (s3 = s) := ⟨by rw [E.out, if_neg (by omega), if_neg (by intro h; exact absurd h.1 (by decide))]⟩
      clear E
      go_wp2_with fail
      go_end0
      exact ⟨rfl, by rw [E2.out]; exact ⟨_, _, _, HV.out⟩, BB.out⟩
    · by_cases hcq : (c : Int) ≤ (q : Int)
      rotate_left
      · have E2 : Aside (s3 = s) := ⟨by rw [E.out, if_neg (by intro h; exact absurd h.1 (by decide)), if_neg (by intro h; exact hcq h.2.2)]⟩
        have hcq2 : (q : Int) < c := by omega
        clear E
        have hac : (a : Int) < c := by omega
        go_wp2_with fail
        go_end0
        exact ⟨rfl, by rw [E2.out]; exact ⟨_, _, _, HV.out⟩, BB.out⟩
      have E2 : Aside (s3 = { s with acked := max a c }) := ⟨by rw [E.out, if_neg (by intro h; exact absurd h.1 (by decide)), if_pos ⟨rfl, rfl, hcq⟩, HQQ.out, Int.toNat_natCast]⟩
      clear E
      by_cases hac : (a : Int) < c
      · have E3 : Aside (s3 = { s with acked := c }) := ⟨by rw [E2.out, show max a c = c by omega]⟩
        clear E2
        go_wp2_with fail
        all_goals
          go_end0
          refine ⟨rfl, ?_, BB.out.setCell HV.out.hb _⟩
          rw [E3.out]
          exact ⟨_, _, _, HV.out.setInts c s.packed (HV.out.blk.set 2 _) (fun b hb hg => heap_far hg)⟩
      · have E3 : Aside (s3 = s) := ⟨by rw [E2.out, show max a c = a by omega, HAA.out]⟩
        have hac2 : (c : Int) ≤ a := by omega
        clear E2
        go_wp2_with fail
        all_goals
          go_end0
          rw [E3.out]
          first
            | exact ⟨rfl, ⟨_, _, _, HV.out⟩, BB.out⟩
            | exact ⟨rfl, ⟨_, _, _, HV.out.setInts s.acked s.packed (by have h := HV.out.blk.set 2 (.int .i64 s.acked); rw [HAA.out]; exact h) (fun b hb hg => heap_far hg)⟩, BB.out.setCell HV.out.hb _⟩
end Go.Proofs.Ytlopbheahedofaa.Fn
