/- Rows of tables: when one is right, when two are the same, a row's key in memory. Conditions: those of each theorem. -/
import Derived.Test.YtdldgchkinflmaaTmZ
import Derived.Test.YtdldgchkinflmaaTabo
import Derived.Test.YtdldgchkinflmaaGTable
set_option linter.unusedVariables false
namespace Go.Proofs.Ytdldgchkinflmaa.Fn
open Go.RowKit Go.Proofs.Ytdldgchkinflmaa.Lib Go.Proofs.Ytdldgchkinflmaa.Plan

theorem rowB_parts {r : T} (h : rowB r = true) : r.okB = true ∧ r.kind = 6 ∧ 0 < r.kids.length := by
  simpa [rowB] using h
theorem right_kid2 {t x : T} (h : t.right = true) (hx : x ∈ t.kids) : x.right = true := by
  cases t with
  | mk k n s ts =>
    rw [T.right_eq] at h
    simp only [Bool.and_eq_true] at h
    exact List.all_eq_true.1 h.2.1 x hx
theorem rowB_right {r : T} (h : rowB r = true) : r.right = true := by
  have := (rowB_parts h).1
  simp only [T.okB, Bool.and_eq_true] at this
  exact this.2
theorem keyT_eq (t : T) (h : 0 < t.kids.length) : keyT t = t.kids[0] := by
  rw [keyT, List.headD_eq_head?_getD, List.head?_eq_getElem?, List.getElem?_eq_getElem h]; rfl
theorem key_right {r : T} (h : rowB r = true) : (keyT r).right = true := by
  have hk := (rowB_parts h).2.2
  rw [keyT_eq r hk]
  exact right_kid2 (rowB_right h) (List.getElem_mem hk)
theorem keyT_wt {t : T} (h : 0 < t.kids.length) (hw : Rec.term.wt t ≤ 1048576) : Rec.term.wt (keyT t) ≤ 1048576 := by
  have e := Rec.term_wt t
  have hk2 : Rec.term.sl.wt t.kids ≤ 1048576 := by omega
  rw [keyT_eq t h]
  exact wt_kid hk2 0 h
/-- A row and its key, in the cells of a later world. -/
theorem key_cells {w wr : World} {rows : List T} {b o : Nat} (hb : Below w.heap.size w wr) (hrow : RowOf 4 (Rec.term.rd False w) False w (Old w) rows b o) (k : Nat) (h : k < rows.length) (hk : 0 < rows[k].kids.length) :
    ∃ cap bk ok c0 c1 c2 ca cl cc, wr.cell? ⟨b, o + k * 4, none⟩ = some (.int .i64 rows[k].kind) ∧ wr.cell? ⟨b, o + k * 4 + 1, none⟩ = some (.int .i64 rows[k].num) ∧ wr.cell? ⟨b, o + k * 4 + 2, none⟩ = some (.string rows[k].str) ∧
      wr.cell? ⟨b, o + k * 4 + 3, none⟩ = some (.slice (some ⟨bk, ok, none⟩) rows[k].kids.length cap) ∧
      wr.cell? ⟨bk, ok, none⟩ = some (.int .i64 c0) ∧ wr.cell? ⟨bk, ok + 1, none⟩ = some (.int .i64 c1) ∧ wr.cell? ⟨bk, ok + 2, none⟩ = some (.string c2) ∧ wr.cell? ⟨bk, ok + 3, none⟩ = some (.slice ca cl cc) ∧
      Rec.term.rd False wr (Old wr) (keyT rows[k]) [.int .i64 c0, .int .i64 c1, .string c2, .slice ca cl cc] ∧
      Rec.term.rd False wr (Old wr) rows[k] [.int .i64 rows[k].kind, .int .i64 rows[k].num, .string rows[k].str, .slice (some ⟨bk, ok, none⟩) rows[k].kids.length cap] := by
  obtain ⟨hbo, f, hf, -, hr⟩ := hrow
  obtain ⟨cs, hrd, hc⟩ := hr k h
  have hrd2 := Rec.term.up (Rec.term.mono hrd (fun c hc => (hf k c hc).1)) (fun _ h => h) hb
  obtain ⟨A, cap, rfl, hs⟩ := Rec.term_iff.1 hrd
  obtain ⟨_, _, he, _, hsl⟩ := hs
  injection he with he _
  injection he with e1 e2 e3
  subst e1
  rcases hsl with h0 | ⟨bk, ok, rfl, hbk, f2, hf2, -, hrk⟩
  · rw [h0] at hk; exact absurd hk (Nat.lt_irrefl _)
  obtain ⟨cs2, hrd3, hc2⟩ := hrk 0 hk
  obtain ⟨c0, c1, c2, ca, cl, cc, rfl⟩ := shapeTerm hrd3
  have hbk2 : bk < w.heap.size := (hf k bk hbk).1
  have up : ∀ (x y : Nat), x < w.heap.size → wr.cell? ⟨x, y, none⟩ = w.cell? ⟨x, y, none⟩ := fun x y hx => hb.cell (p := ⟨x, y, none⟩) hx
  have hkey := keyT_eq rows[k] hk
  refine ⟨cap, bk, ok, c0, c1, c2, ca, cl, cc, (up _ _ hbo).trans (hc 0 (by decide)), (up _ _ hbo).trans (hc 1 (by decide)), (up _ _ hbo).trans (hc 2 (by decide)), (up _ _ hbo).trans (hc 3 (by decide)),
    (up _ _ hbk2).trans ?_, (up _ _ hbk2).trans ?_, (up _ _ hbk2).trans ?_, (up _ _ hbk2).trans ?_, ?_, hrd2⟩
  · have := hc2 0 (by decide); simpa using this
  · have := hc2 1 (by decide); simpa using this
  · have := hc2 2 (by decide); simpa using this
  · have := hc2 3 (by decide); simpa using this
  · rw [hkey]
    exact Rec.term.up (Rec.term.mono hrd3 (fun c hc => (hf k c ((hf2 0 c hc).1)).1)) (fun _ h => h) hb
set_option maxRecDepth 100000 in
theorem rowOK (t : T) (cs : List Value) (w : World) (h : Rec.term.rd False w (Old w) t cs) (hw : Rec.term.wt t ≤ 1048576) :
    Calls Try.prog 89 #[.agg cs.toArray] w fun e w' => e = .returned (.bool (rowB t)) ∧ Below w.heap.size w w' := by
  obtain ⟨A, cap, rfl, _⟩ := Rec.term_iff.1 h
  have H := Aside.mk h
  clear h
  obtain ⟨res, hres⟩ : ∃ r, r = rowB t := ⟨_, rfl⟩
  rw [← hres]
  have HV : Aside (res = (t.okB && (decide (t.kind = 6) && decide (0 < t.kids.length)))) := ⟨hres⟩
  have L : t.kids.length ≤ 1048576 := by
    have := Rec.term_wt t
    exact wt_len (n := 1048576) (by omega)
  clear hres
  show Calls Try.prog 89 #[.agg #[.int .i64 t.kind, .int .i64 t.num, .string t.str, .slice A t.kids.length cap]] w _
  by_cases h6 : t.kind = 6
  rotate_left
  · have E : Aside (res = false) := ⟨by rw [HV.out, decide_eq_false h6]; simp⟩
    have q : (t.kind == 6) = false := by simpa using h6
    clear h6 HV
    go_enter Try.func89, Try.ntmps89
    go_wp2
    go_ret
    exact ⟨ret_bool E.out.symm, by go_grown⟩
  have q : (t.kind == 6) = true := by simpa using h6
  by_cases h0 : 0 < t.kids.length
  rotate_left
  · have E : Aside (res = false) := ⟨by rw [HV.out, decide_eq_false h0]; simp⟩
    have q0 : (t.kids.length : Int) ≤ 0 := by omega
    clear h6 HV h0
    go_enter Try.func89, Try.ntmps89
    go_wp2
    go_ret
    exact ⟨ret_bool E.out.symm, by go_grown⟩
  have E : Aside (res = t.okB) := ⟨by rw [HV.out, decide_eq_true h6, decide_eq_true h0]; simp⟩
  have q0 : 0 < (t.kids.length : Int) := by omega
  clear h6 HV h0
  go_enter Try.func89, Try.ntmps89
  go_wp2_with fail
  refine (iTermOK t [.int .i64 t.kind, .int .i64 t.num, .string t.str, .slice A t.kids.length cap] _ (Rec.term.old H.out (by go_grown)) hw).mono ?_
  rintro e w1 ⟨rfl, hb1⟩
  have B1 : Aside (Below w.heap.size w w1) := ⟨below_later (by go_grown) hb1⟩
  clear hb1
  generalize t.okB = r at E ⊢
  go_wp2
  go_ret
  exact ⟨ret_bool E.out.symm, B1.out⟩
set_option maxRecDepth 100000 in
theorem l09Row (t : T) (cs : List Value) (w : World) (h : Rec.term.rd False w (Old w) t cs) (hw : Rec.term.wt t ≤ 1048576) :
    Calls Try.prog 86 #[.agg cs.toArray] w fun e w' => e = .returned (.bool (rowB t)) ∧ Below w.heap.size w w' := by
  obtain ⟨A, cap, rfl, _⟩ := Rec.term_iff.1 h
  have H := Aside.mk h
  clear h
  obtain ⟨res, hres⟩ : ∃ r, r = rowB t := ⟨_, rfl⟩
  rw [← hres]
  have HV : Aside (res = (t.okB && (decide (t.kind = 6) && decide (0 < t.kids.length)))) := ⟨hres⟩
  have L : t.kids.length ≤ 1048576 := by
    have := Rec.term_wt t
    exact wt_len (n := 1048576) (by omega)
  clear hres
  show Calls Try.prog 86 #[.agg #[.int .i64 t.kind, .int .i64 t.num, .string t.str, .slice A t.kids.length cap]] w _
  go_enter Try.func86, Try.ntmps86
  go_wp2_with fail
  refine (sTermOK t [.int .i64 t.kind, .int .i64 t.num, .string t.str, .slice A t.kids.length cap] _ (Rec.term.old H.out (by go_grown)) hw).mono ?_
  rintro e w1 ⟨rfl, hb1⟩
  have B1 : Aside (Below w.heap.size w w1) := ⟨below_later (by go_grown) hb1⟩
  have k0 := (Blk.new w 26 [.int .i64 t.kind, .int .i64 t.num, .string t.str, .slice A t.kids.length cap]).below hb1
  have y0 := k0.cell 0
  have y3 := k0.cell 3
  simp only [List.getElem?_cons_zero, List.getElem?_cons_succ] at y0 y3
  clear hb1 k0
  cases ho : t.okB
  · have E : Aside (res = false) := ⟨by rw [HV.out, ho]; rfl⟩
    go_wp2
    go_ret
    exact ⟨ret_bool E.out.symm, B1.out⟩
  have E0 : Aside (res = (decide (t.kind = 6) && decide (0 < t.kids.length))) := ⟨by rw [HV.out, ho]; rfl⟩
  clear ho HV
  by_cases h6 : t.kind = 6
  rotate_left
  · have E : Aside (res = false) := ⟨by rw [E0.out, decide_eq_false h6]; simp⟩
    have q : (t.kind == 6) = false := by simpa using h6
    clear h6 E0
    go_wp2
    go_ret
    exact ⟨ret_bool E.out.symm, B1.out⟩
  have q : (t.kind == 6) = true := by simpa using h6
  have E : Aside (res = decide (0 < t.kids.length)) := ⟨by rw [E0.out, decide_eq_true h6]; simp⟩
  clear h6 E0
  go_wp2
  go_ret
  exact ⟨ret_bool (E.out.trans (decide_eq_decide.2 (by omega))).symm, B1.out⟩
def sameB (a b : T) : Bool := decide (T.cmp a b = 0)
set_option maxRecDepth 100000 in
theorem l04Same (a b : T) (ca cb : List Value) (w : World) (ha : Rec.term.rd False w (Old w) a ca) (hb : Rec.term.rd False w (Old w) b cb) (hwa : Rec.term.wt a ≤ 1048576) (hwb : Rec.term.wt b ≤ 1048576) :
    Calls Try.prog 76 #[.agg ca.toArray, .agg cb.toArray] w fun e w' => e = .returned (.bool (sameB a b)) ∧ Below w.heap.size w w' := by
  obtain ⟨x0, x1, x2, x3a, x3b, x3c, rfl⟩ := shapeTerm ha
  obtain ⟨z0, z1, z2, z3a, z3b, z3c, rfl⟩ := shapeTerm hb
  have H1 := Aside.mk ha
  have H2 := Aside.mk hb
  clear ha hb
  obtain ⟨res, hres⟩ : ∃ r, r = sameB a b := ⟨_, rfl⟩
  rw [← hres]
  have HV : Aside (res = decide (T.cmp a b = 0)) := ⟨hres⟩
  clear hres
  show Calls Try.prog 76 #[.agg #[.int .i64 x0, .int .i64 x1, .string x2, .slice x3a x3b x3c], .agg #[.int .i64 z0, .int .i64 z1, .string z2, .slice z3a z3b z3c]] w _
  go_enter Try.func76, Try.ntmps76
  go_wp2_with fail
  refine (l01Cmp a b [.int .i64 x0, .int .i64 x1, .string x2, .slice x3a x3b x3c] [.int .i64 z0, .int .i64 z1, .string z2, .slice z3a z3b z3c] _ (Rec.term.old H1.out (by go_grown)) (Rec.term.old H2.out (by go_grown)) hwa hwb).mono ?_
  rintro e w1 ⟨rfl, hb1⟩
  have B1 : Aside (Below w.heap.size w w1) := ⟨below_later (by go_grown) hb1⟩
  clear hb1
  generalize T.cmp a b = c at HV ⊢
  go_wp2
  go_ret
  exact ⟨ret_bool (by rw [HV.out]; by_cases e : c = 0 <;> simp [e]), B1.out⟩
set_option maxRecDepth 100000 in
theorem same (a b : T) (ca cb : List Value) (w : World) (ha : Rec.term.rd False w (Old w) a ca) (hb : Rec.term.rd False w (Old w) b cb) (hwa : Rec.term.wt a ≤ 1048576) (hwb : Rec.term.wt b ≤ 1048576) (hra : a.right = true) (hrb : b.right = true) :
    Calls Try.prog 93 #[.agg ca.toArray, .agg cb.toArray] w fun e w' => e = .returned (.bool (sameB a b)) ∧ Below w.heap.size w w' := by
  obtain ⟨x0, x1, x2, x3a, x3b, x3c, rfl⟩ := shapeTerm ha
  obtain ⟨z0, z1, z2, z3a, z3b, z3c, rfl⟩ := shapeTerm hb
  have H1 := Aside.mk ha
  have H2 := Aside.mk hb
  clear ha hb
  obtain ⟨res, hres⟩ : ∃ r, r = sameB a b := ⟨_, rfl⟩
  rw [← hres]
  have HV : Aside (res = decide (T.cmp a b = 0)) := ⟨hres⟩
  clear hres
  show Calls Try.prog 93 #[.agg #[.int .i64 x0, .int .i64 x1, .string x2, .slice x3a x3b x3c], .agg #[.int .i64 z0, .int .i64 z1, .string z2, .slice z3a z3b z3c]] w _
  go_enter Try.func93, Try.ntmps93
  go_wp2_with fail
  refine (compare a b [.int .i64 x0, .int .i64 x1, .string x2, .slice x3a x3b x3c] [.int .i64 z0, .int .i64 z1, .string z2, .slice z3a z3b z3c] _ (Rec.term.old H1.out (by go_grown)) (Rec.term.old H2.out (by go_grown)) hwa hwb hra hrb).mono ?_
  rintro e w1 ⟨rfl, hb1⟩
  have B1 : Aside (Below w.heap.size w w1) := ⟨below_later (by go_grown) hb1⟩
  clear hb1
  generalize T.cmp a b = c at HV ⊢
  go_wp2
  go_ret
  exact ⟨ret_bool (by rw [HV.out]; by_cases e : c = 0 <;> simp [e]), B1.out⟩
end Go.Proofs.Ytdldgchkinflmaa.Fn
