/- Walks of span and of slices.IndexFunc over a table's rows. Walk of span. Conditions: those of each theorem. -/
import Derived.Test.YtdldgchkinflmaaTab1
import Derived.Test.YtdldgchkinflmaaEnv
import Derived.Test.YtdldgchkinflmaaTabo
section
set_option linter.unusedVariables false
namespace Go.Proofs.Ytdldgchkinflmaa.Fn
open Go.RowKit Go.Proofs.Ytdldgchkinflmaa.Lib Go.Proofs.Ytdldgchkinflmaa.Plan
attribute [local go_sem] look_tmp look_const look_func look_global lookT_nil lookT_hit lookT_miss

theorem tw_len {α : Type} {p : α → Bool} : ∀ (l : List α) (m : Nat), m ≤ l.length → (∀ (j : Nat) (h : j < l.length), j < m → p l[j] = true) → (∀ h : m < l.length, p l[m] = false) → (l.takeWhile p).length = m
  | [], m, h, _, _ => by simp at h; subst h; rfl
  | x :: l, 0, _, _, h2 => by
    have := h2 (by simp)
    simp only [List.getElem_cons_zero] at this
    rw [List.takeWhile_cons, this]
    rfl
  | x :: l, m + 1, h, h1, h2 => by
    have h0 := h1 0 (by simp) (by omega)
    simp only [List.getElem_cons_zero] at h0
    rw [List.takeWhile_cons, h0]
    simp only [if_true, List.length_cons]
    rw [tw_len l m (by simpa using h) (fun j hj hm => by have := h1 (j + 1) (by simpa using hj) (by omega); simpa using this) (fun hm => by have := h2 (by simpa using hm); simpa using this)]
/-- Where the first is of which p holds; -1 where none is. -/
def idx (p : T → Bool) (xs : List T) : Int := if (xs.takeWhile fun x => !p x).length < xs.length then ((xs.takeWhile fun x => !p x).length : Int) else -1
/-- A closure's contract: on each of the terms, in every later world. -/
def OnEach (F : FuncId) (caps : Array Value) (w : World) (xs : List T) (p : T → Bool) : Prop :=
  ∀ x ∈ xs, ∀ (cs : List Value) (w1 : World), Below w.heap.size w w1 → Rec.term.rd False w1 (Old w1) x cs → Calls Try.prog F (#[.agg cs.toArray] ++ caps) w1 fun e w2 => e = .returned (.bool (p x)) ∧ Below w1.heap.size w1 w2
set_option maxRecDepth 100000 in
set_option maxHeartbeats 2000000 in
theorem indexSpan (xs : List T) (v ptr : Value) (w : World) (p : T → Bool) (h : Rec.term.sl.rd False w (Old w) xs [v]) (hn : xs.length ≤ 1048576) (hf : OnEach 161 #[ptr] w xs p) :
    Calls Try.prog 160 #[v, .func (.func 161) #[] #[ptr]] w fun e w' => e = .returned (.int .i64 (idx p xs)) ∧ Below w.heap.size w w' := by
  obtain ⟨A, c, he, hcap, hao⟩ := h
  injection he with he _
  subst he
  have HA := Aside.mk hao
  have HF := Aside.mk hf
  obtain ⟨n, hln⟩ : ∃ n, n = xs.length := ⟨_, rfl⟩
  have HL := Aside.mk hln
  rw [← hln] at hn hcap ⊢
  have H0 : Aside (∀ (j : Nat) (h : j < xs.length), j < 0 → p xs[j] = false) := ⟨fun _ _ h => absurd h (Nat.not_lt_zero _)⟩
  clear hao hf hln
  go_enter Try.func160, Try.ntmps160
  go_wp2_with fail
  go_loopw [8] (fun iv wr => ∃ i : Nat, i ≤ n ∧ iv = .int .i64 i ∧ Aside (Below w.heap.size w wr) ∧ Aside (∀ (j : Nat) (h : j < xs.length), j < i → p xs[j] = false)) (fun iv _ => n - (intOf iv).toNat)
  case atStart => exact ⟨0, Nat.zero_le _, rfl, ⟨Below.refl _ _⟩, H0⟩
  case round =>
    obtain ⟨i, hi, rfl, hbel, hall⟩ := hrel
    clear H0
    by_cases hlt : i < n
    · have hlt2 : i < xs.length := by rw [← HL.out]; exact hlt
      rcases HA.out with h0 | ⟨b, o, rfl, hb, f, hf, -, hrow⟩
      · exfalso; rw [h0] at hlt2; exact absurd hlt2 (Nat.not_lt_zero _)
      obtain ⟨cs, hr, hc⟩ := hrow i hlt2
      obtain ⟨c0, c1, c2, c3a, c3b, c3c, rfl⟩ := shapeTerm hr
      have hbel2 := hbel.out
      have d0 : wr.cell? ⟨b, o + i * 4, none⟩ = some (.int .i64 c0) := (hbel2.cell (p := ⟨b, o + i * 4 + 0, none⟩) hb).trans (hc 0 (by decide))
      have d1 : wr.cell? ⟨b, o + i * 4 + 1, none⟩ = some (.int .i64 c1) := (hbel2.cell (p := ⟨b, o + i * 4 + 1, none⟩) hb).trans (hc 1 (by decide))
      have d2 : wr.cell? ⟨b, o + i * 4 + 2, none⟩ = some (.string c2) := (hbel2.cell (p := ⟨b, o + i * 4 + 2, none⟩) hb).trans (hc 2 (by decide))
      have d3 : wr.cell? ⟨b, o + i * 4 + 3, none⟩ = some (.slice c3a c3b c3c) := (hbel2.cell (p := ⟨b, o + i * 4 + 3, none⟩) hb).trans (hc 3 (by decide))
      have HR := Aside.mk (Rec.term.up (w1 := wr) (Rec.term.mono hr (fun c hc => (hf i c hc).1)) (fun _ h => h) hbel2)
      clear hc hrow hf hbel2 hr
      go_wp2_with fail
      refine (HF.out xs[i] (List.getElem_mem hlt2) [.int .i64 c0, .int .i64 c1, .string c2, .slice c3a c3b c3c] _ hbel.out HR.out).mono ?_
      rintro e w2 ⟨rfl, hb2⟩
      have hbel2 := Aside.mk (below_later hbel.out hb2)
      clear d0 d1 d2 d3 HR hb2 hbel
      cases hp : p xs[i]
      · have hall2 : Aside (∀ (j : Nat) (h : j < xs.length), j < i + 1 → p xs[j] = false) := ⟨fun j hj hji => by
          by_cases e : j = i
          · subst e; exact hp
          · exact hall.out j hj (by omega)⟩
        clear hall hp
        go_wp2_with fail
        go_roundw
        case rel => exact ⟨i + 1, by omega, by go_num, hbel2, hall2⟩
        case measure => first | (simp [intOf]; done) | (simp [intOf]; omega)
      · have HP := Aside.mk hp
        clear hp
        go_wp2_with fail
        go_ret
        refine ⟨ret_int ?_, hbel2.out⟩
        have hl : (xs.takeWhile fun x => !p x).length = i := tw_len xs i (by omega) (fun j hj hji => by rw [hall.out j hj hji]; rfl) (fun h => by rw [HP.out]; rfl)
        rw [idx, hl, if_pos hlt2]
    · obtain rfl : i = n := by omega
      go_wp2_with fail
      go_ret
      refine ⟨ret_int ?_, hbel.out⟩
      have hl : (xs.takeWhile fun x => !p x).length = xs.length := tw_len xs _ (Nat.le_refl _) (fun j hj hji => by rw [hall.out j hj (by rw [HL.out]; exact hj)]; rfl) (fun h => absurd h (Nat.lt_irrefl _))
      rw [idx, hl, if_neg (Nat.lt_irrefl _)]
/-- A row's key, in memory. -/
theorem key_of {w : World} {r : T} {cs : List Value} (h : Rec.term.rd False w (Old w) r cs) (hk : 0 < r.kids.length) :
    ∃ cap bk ok c0 c1 c2 ca cl cc, cs = [.int .i64 r.kind, .int .i64 r.num, .string r.str, .slice (some ⟨bk, ok, none⟩) r.kids.length cap] ∧ bk < w.heap.size ∧
      w.cell? ⟨bk, ok, none⟩ = some (.int .i64 c0) ∧ w.cell? ⟨bk, ok + 1, none⟩ = some (.int .i64 c1) ∧ w.cell? ⟨bk, ok + 2, none⟩ = some (.string c2) ∧ w.cell? ⟨bk, ok + 3, none⟩ = some (.slice ca cl cc) ∧
      Rec.term.rd False w (Old w) (keyT r) [.int .i64 c0, .int .i64 c1, .string c2, .slice ca cl cc] := by
  obtain ⟨A, cap, rfl, hs⟩ := Rec.term_iff.1 h
  obtain ⟨_, _, he, _, hsl⟩ := hs
  injection he with he _
  injection he with e1 e2 e3
  subst e1
  rcases hsl with h0 | ⟨bk, ok, rfl, hbk, f2, hf2, -, hrk⟩
  · rw [h0] at hk; exact absurd hk (Nat.lt_irrefl _)
  obtain ⟨cs2, hrd3, hc2⟩ := hrk 0 hk
  obtain ⟨c0, c1, c2, ca, cl, cc, rfl⟩ := shapeTerm hrd3
  refine ⟨cap, bk, ok, c0, c1, c2, ca, cl, cc, rfl, hbk, ?_, ?_, ?_, ?_, ?_⟩
  · have := hc2 0 (by decide); simpa using this
  · have := hc2 1 (by decide); simpa using this
  · have := hc2 2 (by decide); simpa using this
  · have := hc2 3 (by decide); simpa using this
  · rw [keyT_eq r hk]
    exact Rec.term.mono hrd3 (fun c hc => (hf2 0 c hc).1)
set_option maxRecDepth 100000 in
set_option maxHeartbeats 2000000 in
theorem spanEach (key : T) (kc : List Value) (g : Nat) (w : World) (rows : List T) (hk : Rec.term.rd False w (Old w) key kc) (hkw : Rec.term.wt key ≤ 1048576) (hkr : key.right = true) (hg : Blk w g 26 kc) (hrows : ∀ r ∈ rows, rowB r = true ∧ Rec.term.wt r ≤ 1048576) :
    OnEach 161 #[.pointer (some ⟨g, 0, none⟩)] w rows (geK key) := by
  intro x hx cs w1 hb hr
  obtain ⟨hxb, hxw⟩ := hrows x hx
  obtain ⟨z0, z1, z2, z3a, z3b, z3c, rfl⟩ := shapeTerm hk
  have kx := (rowB_parts hxb).2.2
  obtain ⟨cap, bk, ok, c0, c1, c2, ca, cl, cc, rfl, hbk, g0, g1, g2, g3, hkr2⟩ := key_of hr kx
  have HR1 := Aside.mk hkr2
  have HR2 := Aside.mk (Rec.term.old hk hb)
  have hV := keyT_wt kx hxw
  have hKR := Aside.mk (key_right hxb)
  have hKR2 := Aside.mk hkr
  obtain ⟨wa, hwa⟩ : ∃ wa, wa = w1.alloc (.cells #[.int .i64 x.kind, .int .i64 x.num, .string x.str, .slice (some ⟨bk, ok, none⟩) x.kids.length cap] 26) := ⟨_, rfl⟩
  have hba : Below w1.heap.size w1 wa := by rw [hwa]; exact (Below.refl _ _).alloc (Nat.le_refl _) _
  have KB : Blk wa w1.heap.size 26 [.int .i64 x.kind, .int .i64 x.num, .string x.str, .slice (some ⟨bk, ok, none⟩) x.kids.length cap] := by rw [hwa]; exact Blk.new _ _ _
  have hg1 := (hg.below hb).below hba
  have f0 := hg1.cell 0
  have f1 := hg1.cell 1
  have f2 := hg1.cell 2
  have f3 := hg1.cell 3
  have u3 := KB.cell 3
  simp only [List.getElem?_cons_zero, List.getElem?_cons_succ] at f0 f1 f2 f3 u3
  replace g0 := (hba.cell (p := ⟨bk, ok, none⟩) hbk).trans g0
  replace g1 := (hba.cell (p := ⟨bk, ok + 1, none⟩) hbk).trans g1
  replace g2 := (hba.cell (p := ⟨bk, ok + 2, none⟩) hbk).trans g2
  replace g3 := (hba.cell (p := ⟨bk, ok + 3, none⟩) hbk).trans g3
  have HBA := Aside.mk hba
  have HWA := Aside.mk hwa
  have kp : (0 : Int) < x.kids.length := by omega
  obtain ⟨res, hres⟩ : ∃ r, r = geK key x := ⟨_, rfl⟩
  rw [← hres]
  have HV : Aside (res = decide (0 ≤ T.cmp (keyT x) key)) := ⟨hres⟩
  show Calls Try.prog 161 #[.agg #[.int .i64 x.kind, .int .i64 x.num, .string x.str, .slice (some ⟨bk, ok, none⟩) x.kids.length cap], .pointer (some ⟨g, 0, none⟩)] w1 _
  clear hkr2 hr hk hg hg1 hrows hres hb hx hxb hxw hkr hba hwa KB hbk
  go_enter Try.func161, Try.ntmps161
  go_wp2_with fail
  rw [← HWA.out]
  go_still_tail 5, (by kernel_rfl)
  change wpList _ _ _ _ _ wa.drew
  go_wp2_with fail
  refine (compare (keyT x) key [.int .i64 c0, .int .i64 c1, .string c2, .slice ca cl cc] [.int .i64 z0, .int .i64 z1, .string z2, .slice z3a z3b z3c] _ (Rec.term.old HR1.out HBA.out.drew) (Rec.term.old HR2.out HBA.out.drew) hV hkw hKR.out hKR2.out).mono ?_
  rintro e w2 ⟨rfl, hb2⟩
  have B2 : Aside (Below w1.heap.size w1 w2) := ⟨below_later HBA.out.drew hb2⟩
  clear hb2 g0 g1 g2 g3 f0 f1 f2 f3 u3
  generalize T.cmp (keyT x) key = c at HV ⊢
  go_wp2
  go_ret
  exact ⟨ret_bool (by rw [HV.out]), B2.out⟩
end Go.Proofs.Ytdldgchkinflmaa.Fn
end
section
set_option linter.unusedVariables false
namespace Go.Proofs.Ytdldgchkinflmaa.Fn
open Go.RowKit Go.Proofs.Ytdldgchkinflmaa.Lib Go.Proofs.Ytdldgchkinflmaa.Plan
attribute [local go_sem] look_tmp look_const look_func look_global lookT_nil lookT_hit lookT_miss

theorem ret_ints {a b c d : Int} (h1 : a = c) (h2 : b = d) : Ending.returned (.tuple #[.int .i64 a, .int .i64 b]) = .returned (.tuple #[.int .i64 c, .int .i64 d]) := by rw [h1, h2]
theorem tab_rows {ty : Int} {rows : List T} (h : tabB ty rows = true) : (∀ r ∈ rows, rowB r = true) ∧ rows.length ≤ 500 := by
  simp only [tabB, Bool.and_eq_true, decide_eq_true_eq] at h
  refine ⟨?_, h.2.1⟩
  have key : ∀ (rs P : List T), goI ty P rs = true → ∀ r ∈ rs, rowB r = true := by
    intro rs
    induction rs with
    | nil => intro P _ r hr; cases hr
    | cons x xs ih =>
      intro P h r hr
      rw [goI] at h
      simp only [Bool.and_eq_true] at h
      rcases List.mem_cons.1 hr with rfl | hr
      · exact h.1
      · exact ih _ h.2.2 r hr
  exact key rows [] h.2.2
theorem fromK_le (key : T) (rows : List T) : fromK key rows ≤ rows.length := (List.takeWhile_sublist _).length_le
theorem sames_le (key : T) (rows : List T) : sames key rows ≤ rows.length := (List.takeWhile_sublist _).length_le
theorem fromK_idx (key : T) (rows : List T) : idx (geK key) rows = if fromK key rows < rows.length then (fromK key rows : Int) else -1 := rfl
set_option maxRecDepth 100000 in
set_option maxHeartbeats 8000000 in
theorem span (ty : Int) (rows : List T) (key : T) (tc kc : List Value) (w : World) (ht : RTable.rd False w (Old w) (ty, rows) tc) (hk : Rec.term.rd False w (Old w) key kc) (hw : RTable.wt (ty, rows) ≤ 1048576) (hkw : Rec.term.wt key ≤ 1048576)
    (hok : tabB ty rows = true) (hkr : key.right = true) :
    Calls Try.prog 80 #[.agg tc.toArray, .agg kc.toArray] w fun e w' => e = .returned (.tuple #[.int .i64 (fromK key rows), .int .i64 ((fromK key rows : Int) + sames key (rows.drop (fromK key rows)))]) ∧ Below w.heap.size w w' := by
  have hw2 : Rec.int.wt ty + Rec.term.sl.wt rows ≤ 1048576 := hw
  have WT : Rec.term.sl.wt rows ≤ 1048576 := by omega
  obtain ⟨_, _, _, _, rfl, p0, q0, i0, j0, -⟩ := ht
  have h1 := Rec.term.sl.mono q0 (fun b h => j0 b h)
  obtain rfl := p0
  have HROWS := Aside.mk h1
  obtain ⟨A, c1, rfl, hcap, hsl⟩ := h1
  obtain ⟨z0, z1, z2, z3a, z3b, z3c, rfl⟩ := shapeTerm hk
  have HS := Aside.mk hsl
  have HW := Aside.mk (wt_kid WT)
  obtain ⟨hall, hlen⟩ := tab_rows hok
  have HRB := Aside.mk hall
  have HKY := Aside.mk hk
  have HKR := Aside.mk hkr
  obtain ⟨f, hf⟩ : ∃ f, f = fromK key rows := ⟨_, rfl⟩
  have hfl := fromK_le key rows
  have HFI := Aside.mk (fromK_idx key rows)
  obtain ⟨s, hs⟩ : ∃ s, s = sames key (rows.drop (fromK key rows)) := ⟨_, rfl⟩
  rw [← hs]
  rw [← hf] at hs hfl HFI ⊢
  have HSM := Aside.mk hs
  have HFV := Aside.mk hf
  have hn1 : rows.length ≤ 1048576 := by omega
  have HMEM : Aside (∀ r ∈ rows, rowB r = true ∧ Rec.term.wt r ≤ 1048576) := ⟨fun r hr => ⟨hall r hr, by
    obtain ⟨j, hj, rfl⟩ := List.mem_iff_getElem.1 hr
    exact wt_kid WT j hj⟩⟩
  have hmf : ∀ (fn : Fn) (first cap : Array Value) (w : World), (Instr.makeFunc fn first cap).run Try.prog w = .ok (.func fn first cap) w := fun _ _ _ _ => rfl
  show Calls Try.prog 80 #[.agg #[.int .i64 ty, .slice A rows.length c1], .agg #[.int .i64 z0, .int .i64 z1, .string z2, .slice z3a z3b z3c]] w _
  obtain ⟨n, hln⟩ : ∃ n, n = rows.length := ⟨_, rfl⟩
  rw [← hln] at hfl hlen hn1 hcap HFI ⊢
  have HN := Aside.mk hln
  clear hsl q0 i0 j0 hw hw2 WT hf hs hok hall hkr hk hln
  go_enter Try.func80, Try.ntmps80
  go_wp2_with fail
  refine (indexSpan rows (.slice A n c1) (.pointer (some ⟨w.heap.size + 1, 0, none⟩)) _ (geK key) (by have := HROWS.out; rw [← HN.out] at this; exact Rec.term.sl.old this (by go_grown)) (by rw [← HN.out]; exact hn1)
    (spanEach key [.int .i64 z0, .int .i64 z1, .string z2, .slice z3a z3b z3c] (w.heap.size + 1) _ rows (Rec.term.old HKY.out (by go_grown)) hkw HKR.out (Blk.made (w.alloc _) 26 [.int .i64 z0, .int .i64 z1, .string z2, .slice z3a z3b z3c] (by simp)) HMEM.out)).mono ?_
  rintro e w1 ⟨rfl, hb1⟩
  have K0 := Aside.mk (((Blk.new w 42 [.int .i64 ty, .slice A n c1]).alloc _).below hb1)
  have K1 := Aside.mk ((Blk.made (w.alloc _) 26 [.int .i64 z0, .int .i64 z1, .string z2, .slice z3a z3b z3c] (g := w.heap.size + 1) (by simp)).below hb1)
  have B1 : Aside (Below w.heap.size w w1) := ⟨below_later (by go_grown) hb1⟩
  clear hb1 hmf
  rw [HFI.out]
  by_cases hfn : f < n
  rotate_left
  · have hfe : f = n := by omega
    have hs0 : s = 0 := by
      have h1 := HSM.out
      have h2 := sames_le key (rows.drop f)
      rw [← HSM.out, List.length_drop, ← HN.out] at h2
      omega
    subst hfe hs0
    rw [if_neg (by omega)]
    have y0 : w1.cell? ⟨w.heap.size, 0, none⟩ = some (.int .i64 ty) := K0.out.cell 0
    have y1 : w1.cell? ⟨w.heap.size, 1, none⟩ = some (.slice A f c1) := K0.out.cell 1
    go_wp2_with fail
    go_quiet (fail)
    all_goals
      go_wp2_with fail
      go_ret2
      exact ⟨by simp, by first | exact B1.out | exact B1.out.drew | exact ⟨B1.out.os, B1.out.tape, B1.out.output, B1.out.size, B1.out.block⟩⟩
  rw [if_pos (by omega)]
  have E0 : Aside (∀ (j : Nat) (h : j < (rows.drop f).length), j < 0 → sameK key (rows.drop f)[j] = true) := ⟨fun _ _ h => absurd h (Nat.not_lt_zero _)⟩
  have y0 : w1.cell? ⟨w.heap.size, 0, none⟩ = some (.int .i64 ty) := K0.out.cell 0
  have y1 : w1.cell? ⟨w.heap.size, 1, none⟩ = some (.slice A n c1) := K0.out.cell 1
  go_wp2_with fail
  clear y0 y1
  go_loopw [7] (fun v wr => ∃ m : Nat, f + m ≤ n ∧ v = .int .i64 ((f : Int) + m) ∧ Aside (Blk wr w.heap.size 42 [.int .i64 ty, .slice A n c1]) ∧ Aside (Blk wr (w.heap.size + 1) 26 [.int .i64 z0, .int .i64 z1, .string z2, .slice z3a z3b z3c]) ∧ Aside (Below w.heap.size w wr) ∧ Aside (∀ (j : Nat) (h : j < (rows.drop f).length), j < m → sameK key (rows.drop f)[j] = true)) (fun v _ => n - (intOf v).toNat)
  case atStart => exact ⟨0, by omega, by simp, K0, K1, B1, E0⟩
  case round =>
    obtain ⟨m, hm, rfl, hk0, hk1, hbel, hall⟩ := hrel
    clear K0 K1 B1 E0
    have y0 := hk0.out.cell 0
    have y1 := hk0.out.cell 1
    have x0 := hk1.out.cell 0
    have x1 := hk1.out.cell 1
    have x2 := hk1.out.cell 2
    have x3 := hk1.out.cell 3
    simp only [List.getElem?_cons_zero, List.getElem?_cons_succ] at y0 y1 x0 x1 x2 x3
    have l0 : w.heap.size < wr.heap.size := hk0.out.lt
    have l1 : w.heap.size + 1 < wr.heap.size := hk1.out.lt
    have ecast : ((f : Int) + (m : Int)) = ((f + m : Nat) : Int) := by omega
    rw [ecast]
    obtain ⟨t, ht⟩ : ∃ t, t = f + m := ⟨_, rfl⟩
    rw [← ht] at hm ⊢
    have HT := Aside.mk ht
    clear ecast ht
    by_cases hlt : t < n
    rotate_left
    · obtain rfl : t = n := by omega
      have hsm : Aside (s = m) := ⟨by
        rw [HSM.out]
        exact tw_len _ m (by rw [List.length_drop, ← HN.out]; have := HT.out; omega) hall.out (fun h => by rw [List.length_drop, ← HN.out] at h; have := HT.out; omega)⟩
      clear hall
      go_wp2_with fail
      refine region_env [(0, true), (1, true), (2, true), (3, true), (4, true), (5, true), (6, true), (7, true), (8, true), (9, true), (10, true), (11, true), (12, true), (13, true), (14, true), (15, true), (16, true)] (fun w' => Below wr.heap.size wr w') 42 rfl (by kernel_rfl) (by kernel_rfl) (fun _ _ d _ _ h => by cases d <;> exact h) ((Below.refl _ _).drew) (fun ops fr HFR HSZ hl => ?_)
      have hl_0 := ops_start hl
      clear hl
      obtain ⟨H0, hl_1⟩ := ops_next 0 1 rfl hl_0
      clear hl_0
      obtain ⟨H1, hl_2⟩ := ops_next 1 2 rfl hl_1
      clear hl_1
      obtain ⟨H2, hl_3⟩ := ops_next 2 3 rfl hl_2
      clear hl_2
      obtain ⟨H3, hl_4⟩ := ops_next 3 4 rfl hl_3
      clear hl_3
      obtain ⟨H4, hl_5⟩ := ops_next 4 5 rfl hl_4
      clear hl_4
      obtain ⟨H5, hl_6⟩ := ops_next 5 6 rfl hl_5
      clear hl_5
      obtain ⟨H6, hl_7⟩ := ops_next 6 7 rfl hl_6
      clear hl_6
      obtain ⟨H7, hl_8⟩ := ops_next 7 8 rfl hl_7
      clear hl_7
      obtain ⟨H8, hl_9⟩ := ops_next 8 9 rfl hl_8
      clear hl_8
      obtain ⟨H9, hl_10⟩ := ops_next 9 10 rfl hl_9
      clear hl_9
      obtain ⟨H10, hl_11⟩ := ops_next 10 11 rfl hl_10
      clear hl_10
      obtain ⟨H11, hl_12⟩ := ops_next 11 12 rfl hl_11
      clear hl_11
      obtain ⟨H12, hl_13⟩ := ops_next 12 13 rfl hl_12
      clear hl_12
      obtain ⟨H13, hl_14⟩ := ops_next 13 14 rfl hl_13
      clear hl_13
      obtain ⟨H14, hl_15⟩ := ops_next 14 15 rfl hl_14
      clear hl_14
      obtain ⟨H15, hl_16⟩ := ops_next 15 16 rfl hl_15
      clear hl_15
      obtain ⟨H16, hl_17⟩ := ops_next 16 17 rfl hl_16
      clear hl_16
      clear hl_17
      have x_7 : ext fr 7 = _ := congrArg (fun a => Act.eval a (.tmp 7)) HFR.out
      conv at x_7 => rhs; simp only [Act.eval, Array.getD_eq_getD_getElem?, List.getElem?_toArray, List.getElem?_cons_succ, List.getElem?_cons_zero, Option.getD_some]
      have x_2 : ext fr 2 = _ := congrArg (fun a => Act.eval a (.tmp 2)) HFR.out
      conv at x_2 => rhs; simp only [Act.eval, Array.getD_eq_getD_getElem?, List.getElem?_toArray, List.getElem?_cons_succ, List.getElem?_cons_zero, Option.getD_some]
      refine env_yes HSZ H0.out ?_ (fun w' hS => ?_) ?_
      rotate_left
      (go_simp
       rfl)
      refine env_yes HSZ H1.out ?_ (fun w' hS => ?_) ?_
      rotate_left
      (go_simp
       rfl)
      refine env_yes HSZ H2.out ?_ (fun w' hS => ?_) ?_
      rotate_left
      (have h := (hS.cell (p := ⟨w.heap.size, 1, none⟩) l0).trans y1
       go_simp
       rfl)
      refine env_yes HSZ H3.out ?_ (fun w' hS => ?_) ?_
      rotate_left
      (go_simp
       rfl)
      refine env_yes HSZ H4.out ?_ (fun w' hS => ?_) ?_
      rotate_left
      (go_simp
       rfl)
      refine env_yes HSZ H5.out ?_ (fun w' hS => ?_) ?_
      rotate_left
      (go_simp
       rfl)
      refine env_off HSZ H6.out H5.out (by first | rfl | go_simp) ?_
      refine env_off HSZ H7.out H5.out (by first | rfl | go_simp) ?_
      refine env_off HSZ H8.out H5.out (by first | rfl | go_simp) ?_
      refine env_off HSZ H9.out H5.out (by first | rfl | go_simp) ?_
      refine env_off HSZ H10.out H5.out (by first | rfl | go_simp) ?_
      refine env_off HSZ H11.out H5.out (by first | rfl | go_simp) ?_
      refine env_off HSZ H12.out H5.out (by first | rfl | go_simp) ?_
      refine env_off HSZ H13.out H5.out (by first | rfl | go_simp) ?_
      refine env_off HSZ H14.out H5.out (by first | rfl | go_simp) ?_
      refine env_off HSZ H15.out H5.out (by first | rfl | go_simp) ?_
      refine env_yes HSZ H16.out ?_ (fun w' hS => ?_) ?_
      rotate_left
      (go_simp
       rfl)
      refine env_end ?_
      have hfr := HFR.out
      clear HFR HSZ H0 H1 H2 H3 H4 H5 H6 H7 H8 H9 H10 H11 H12 H13 H14 H15 H16 x_7 x_2
      subst hfr
      simp only [putAll, Act.put, List.setIfInBounds_toArray, List.set_cons_succ, List.set_cons_zero]
      go_wp2_with fail
      go_ret2
      rw [hsm.out]
      exact ⟨ret_ints rfl (by have := HT.out; omega), hbel.out.drew⟩
    have hlt2 : t < rows.length := by rw [← HN.out]; exact hlt
    rcases HS.out with h0 | ⟨b, o, rfl, hrow⟩
    · exfalso; rw [h0] at hlt2; exact absurd hlt2 (Nat.not_lt_zero _)
    have hbo : b < w.heap.size := hrow.1
    have hRt := HRB.out rows[t] (List.getElem_mem hlt2)
    obtain ⟨-, -, kt⟩ := rowB_parts hRt
    obtain ⟨cap1, bk1, ok1, d10, d11, d12, d1a, d1l, d1c, e10, e11, e12, e13, g10, g11, g12, g13, r1, rr1⟩ := key_cells hbel.out hrow t hlt2 kt
    have W1 := HW.out t hlt2
    have V1 := keyT_wt kt W1
    have HKT := Aside.mk (key_right hRt)
    have lb : b < wr.heap.size := Nat.lt_of_lt_of_le hbo hbel.out.size
    have lb1 : bk1 < wr.heap.size := cell_lt g10
    have R1 := Aside.mk (Rec.term.old (w1 := wr.drew) r1 (Below.refl _ _).drew)
    have R2 := Aside.mk (Rec.term.old (w1 := wr.drew) HKY.out hbel.out.drew)
    have ut : (t : Int) < n := by omega
    have kt2 : (0 : Int) < rows[t].kids.length := by omega
    obtain ⟨sk, hsk⟩ : ∃ sk, sk = sameB (keyT rows[t]) key := ⟨_, rfl⟩
    have HSK := Aside.mk hsk
    have hdrop : Aside (∀ h : m < (rows.drop f).length, (rows.drop f)[m] = rows[t]) := ⟨fun h => by rw [List.getElem_drop]; simp only [HT.out]⟩
    clear r1 rr1 hrow hRt hsk hbo
    go_wp2_with fail
    refine region_env [(0, true), (1, true), (2, true), (3, true), (4, true), (5, true), (6, true), (7, true), (8, true), (9, true), (10, true), (11, true), (12, true), (13, true), (14, true), (15, false), (16, true)] (fun w' => Below wr.heap.size wr w') 42 rfl (by kernel_rfl) (by kernel_rfl) (fun _ _ d _ _ h => by cases d <;> exact h) ((Below.refl _ _).drew) (fun ops fr HFR HSZ hl => ?_)
    have hl_0 := ops_start hl
    clear hl
    obtain ⟨H0, hl_1⟩ := ops_next 0 1 rfl hl_0
    clear hl_0
    obtain ⟨H1, hl_2⟩ := ops_next 1 2 rfl hl_1
    clear hl_1
    obtain ⟨H2, hl_3⟩ := ops_next 2 3 rfl hl_2
    clear hl_2
    obtain ⟨H3, hl_4⟩ := ops_next 3 4 rfl hl_3
    clear hl_3
    obtain ⟨H4, hl_5⟩ := ops_next 4 5 rfl hl_4
    clear hl_4
    obtain ⟨H5, hl_6⟩ := ops_next 5 6 rfl hl_5
    clear hl_5
    obtain ⟨H6, hl_7⟩ := ops_next 6 7 rfl hl_6
    clear hl_6
    obtain ⟨H7, hl_8⟩ := ops_next 7 8 rfl hl_7
    clear hl_7
    obtain ⟨H8, hl_9⟩ := ops_next 8 9 rfl hl_8
    clear hl_8
    obtain ⟨H9, hl_10⟩ := ops_next 9 10 rfl hl_9
    clear hl_9
    obtain ⟨H10, hl_11⟩ := ops_next 10 11 rfl hl_10
    clear hl_10
    obtain ⟨H11, hl_12⟩ := ops_next 11 12 rfl hl_11
    clear hl_11
    obtain ⟨H12, hl_13⟩ := ops_next 12 13 rfl hl_12
    clear hl_12
    obtain ⟨H13, hl_14⟩ := ops_next 13 14 rfl hl_13
    clear hl_13
    obtain ⟨H14, hl_15⟩ := ops_next 14 15 rfl hl_14
    clear hl_14
    obtain ⟨H15, hl_16⟩ := ops_next 15 16 rfl hl_15
    clear hl_15
    obtain ⟨H16, hl_17⟩ := ops_next 16 17 rfl hl_16
    clear hl_16
    clear hl_17
    have x_7 : ext fr 7 = _ := congrArg (fun a => Act.eval a (.tmp 7)) HFR.out
    conv at x_7 => rhs; simp only [Act.eval, Array.getD_eq_getD_getElem?, List.getElem?_toArray, List.getElem?_cons_succ, List.getElem?_cons_zero, Option.getD_some]
    have x_2 : ext fr 2 = _ := congrArg (fun a => Act.eval a (.tmp 2)) HFR.out
    conv at x_2 => rhs; simp only [Act.eval, Array.getD_eq_getD_getElem?, List.getElem?_toArray, List.getElem?_cons_succ, List.getElem?_cons_zero, Option.getD_some]
    have x_3 : ext fr 3 = _ := congrArg (fun a => Act.eval a (.tmp 3)) HFR.out
    conv at x_3 => rhs; simp only [Act.eval, Array.getD_eq_getD_getElem?, List.getElem?_toArray, List.getElem?_cons_succ, List.getElem?_cons_zero, Option.getD_some]
    refine env_yes HSZ H0.out ?_ (fun w' hS => ?_) ?_
    rotate_left
    (go_simp
     rfl)
    refine env_yes HSZ H1.out ?_ (fun w' hS => ?_) ?_
    rotate_left
    (go_simp
     rfl)
    refine env_yes HSZ H2.out ?_ (fun w' hS => ?_) ?_
    rotate_left
    (have h := (hS.cell (p := ⟨w.heap.size, 1, none⟩) l0).trans y1
     go_simp
     rfl)
    refine env_yes HSZ H3.out ?_ (fun w' hS => ?_) ?_
    rotate_left
    (go_simp
     rfl)
    refine env_yes HSZ H4.out ?_ (fun w' hS => ?_) ?_
    rotate_left
    (go_simp
     rfl)
    refine env_yes HSZ H5.out ?_ (fun w' hS => ?_) ?_
    rotate_left
    (go_simp
     rfl)
    refine env_on HSZ H6.out H5.out (by first | rfl | go_simp) ?_ (fun w' hS => ?_) ?_
    rotate_left
    (go_simp
     rfl)
    refine env_on HSZ H7.out H5.out (by first | rfl | go_simp) ?_ (fun w' hS => ?_) ?_
    rotate_left
    (have h := (hS.cell (p := ⟨w.heap.size, 1, none⟩) l0).trans y1
     go_simp
     rfl)
    refine env_on HSZ H8.out H5.out (by first | rfl | go_simp) ?_ (fun w' hS => ?_) ?_
    rotate_left
    (go_simp
     rfl)
    refine env_on HSZ H9.out H5.out (by first | rfl | go_simp) ?_ (fun w' hS => ?_) ?_
    rotate_left
    (go_simp
     rfl)
    refine env_on HSZ H10.out H5.out (by first | rfl | go_simp) ?_ (fun w' hS => ?_) ?_
    rotate_left
    (go_simp
     rfl)
    refine env_on HSZ H11.out H5.out (by first | rfl | go_simp) ?_ (fun w' hS => ?_) ?_
    rotate_left
    (have h := (hS.cell (p := ⟨b, o + t * 4 + 3, none⟩) lb).trans e13
     go_simp
     rfl)
    refine env_on HSZ H12.out H5.out (by first | rfl | go_simp) ?_ (fun w' hS => ?_) ?_
    rotate_left
    (go_simp
     rfl)
    refine env_on HSZ H13.out H5.out (by first | rfl | go_simp) ?_ (fun w' hS => ?_) ?_
    rotate_left
    (have h0 := (hS.cell (p := ⟨bk1, ok1, none⟩) lb1).trans g10
     have h1 := (hS.cell (p := ⟨bk1, ok1 + 1, none⟩) lb1).trans g11
     have h2 := (hS.cell (p := ⟨bk1, ok1 + 2, none⟩) lb1).trans g12
     have h3 := (hS.cell (p := ⟨bk1, ok1 + 3, none⟩) lb1).trans g13
     go_simp
     rfl)
    refine env_on HSZ H14.out H5.out (by first | rfl | go_simp) ?_ (fun w' hS => ?_) ?_
    rotate_left
    (have h0 := (hS.cell (p := ⟨w.heap.size + 1, 0, none⟩) l1).trans x0
     have h1 := (hS.cell (p := ⟨w.heap.size + 1, 1, none⟩) l1).trans x1
     have h2 := (hS.cell (p := ⟨w.heap.size + 1, 2, none⟩) l1).trans x2
     have h3 := (hS.cell (p := ⟨w.heap.size + 1, 3, none⟩) l1).trans x3
     go_simp
     rfl)
    refine env_call_on HSZ H15.out H5.out (by first | rfl | go_simp) ?_ ?_ ?_ ?_
    rotate_left 2
    (go_simp
     first | rfl | (constructor <;> rfl))
    refine (same (keyT rows[t]) key [.int .i64 d10, .int .i64 d11, .string d12, .slice d1a d1l d1c] [.int .i64 z0, .int .i64 z1, .string z2, .slice z3a z3b z3c] _ R1.out R2.out V1 hkw HKT.out HKR.out).mono ?_
    rintro e w4 ⟨rfl, hbn⟩
    have hk04 := Aside.mk (hk0.out.drew.below hbn)
    have hk14 := Aside.mk (hk1.out.drew.below hbn)
    have hb5 := Aside.mk (below_later hbel.out.drew hbn)
    refine ⟨_, rfl, below_later (Below.refl _ _).drew hbn, ?_⟩
    rw [← HSK.out]
    clear hbn
    refine env_yes HSZ H16.out ?_ (fun w' hS => ?_) ?_
    rotate_left
    (go_simp
     rfl)
    refine env_end ?_
    have hfr := HFR.out
    clear HFR HSZ H0 H1 H2 H3 H4 H5 H6 H7 H8 H9 H10 H11 H12 H13 H14 H15 H16 x_7 x_2 x_3
    subst hfr
    simp only [putAll, Act.put, List.setIfInBounds_toArray, List.set_cons_succ, List.set_cons_zero]
    clear e10 e11 e12 e13 g10 g11 g12 g13 R1 R2 y0 y1 x0 x1 x2 x3 l0 l1 lb lb1 hk0 hk1 hbel
    cases sk
    · have hsm : Aside (s = m) := ⟨by
        rw [HSM.out]
        refine tw_len _ m (by rw [List.length_drop, ← HN.out]; have := HT.out; omega) hall.out (fun h => ?_)
        rw [hdrop.out h]
        exact HSK.out.symm⟩
      clear hall hdrop HSK
      go_wp2_with fail
      go_ret2
      rw [hsm.out]
      exact ⟨ret_ints rfl (by have := HT.out; omega), hb5.out⟩
    have hall2 : Aside (∀ (j : Nat) (h : j < (rows.drop f).length), j < m + 1 → sameK key (rows.drop f)[j] = true) := ⟨fun j hj hji => by
      by_cases e : j = m
      · subst e
        rw [hdrop.out hj]
        exact HSK.out.symm
      · exact hall.out j hj (by omega)⟩
    have hts : Aside (((t : Int) + 1) = (f : Int) + ((m + 1 : Nat) : Int)) := ⟨by have := HT.out; omega⟩
    have htm : f + (m + 1) ≤ n := by have := HT.out; omega
    clear hall hdrop HSK
    go_wp2_with fail
    go_roundw
    case rel => exact ⟨m + 1, htm, by rw [hts.out], hk04, hk14, hb5, hall2⟩
    case measure => first | (simp [intOf]; done) | (simp [intOf]; omega)
end Go.Proofs.Ytdldgchkinflmaa.Fn
end
