/- Walks of span and of slices.IndexFunc over a table's rows. Conditions: those of each theorem. -/
import Derived.Test.YtdldgchkinflmaaTab1
import Derived.Test.YtdldgchkinflmaaEnv
import Derived.Test.YtdldgchkinflmaaTabQ
set_option linter.unusedVariables false
namespace Go.Proofs.Ytdldgchkinflmaa.Fn
open Go.RowKit Go.Proofs.Ytdldgchkinflmaa.Lib Go.Proofs.Ytdldgchkinflmaa.Plan
attribute [local go_sem] look_tmp look_const look_func look_global lookT_nil lookT_hit lookT_miss

theorem tw_len {α : Type} {p : α → Bool} : ∀ (l : List α) (m : Nat), m ≤ l.length → (∀ (j : Nat) (h : j < l.length), j < m → p l[j] = true) → (∀ h : m < l.length, p l[m] = false) → (l.takeWhile p).length = m
  | [], m, h, _, _ => by simp at h; subst h; rfl
  | x :: l, 0, _, _, h2 => by
    have := h2 (by simp)
    simp only [List.getElem_cons_zero] at this
    rw [List.takeWhile_cons, this]
    rfl
  | x :: l, m + 1, h, h1, h2 => by
    have h0 := h1 0 (by simp) (by omega)
    simp only [List.getElem_cons_zero] at h0
    rw [List.takeWhile_cons, h0]
    simp only [if_true, List.length_cons]
    rw [tw_len l m (by simpa using h) (fun j hj hm => by have := h1 (j + 1) (by simpa using hj) (by omega); simpa using this) (fun hm => by have := h2 (by simpa using hm); simpa using this)]
/-- Where the first is of which p holds; -1 where none is. -/
def idx (p : T → Bool) (xs : List T) : Int := if (xs.takeWhile fun x => !p x).length < xs.length then ((xs.takeWhile fun x => !p x).length : Int) else -1
/-- A closure's contract: on each of the terms, in every later world. -/
def OnEach (F : FuncId) (caps : Array Value) (w : World) (xs : List T) (p : T → Bool) : Prop :=
  ∀ x ∈ xs, ∀ (cs : List Value) (w1 : World), Below w.heap.size w w1 → Rec.term.rd False w1 (Old w1) x cs → Calls Try.prog F (#[.agg cs.toArray] ++ caps) w1 fun e w2 => e = .returned (.bool (p x)) ∧ Below w1.heap.size w1 w2
set_option maxRecDepth 100000 in
set_option maxHeartbeats 2000000 in
theorem indexSpan (xs : List T) (v ptr : Value) (w : World) (p : T → Bool) (h : Rec.term.sl.rd False w (Old w) xs [v]) (hn : xs.length ≤ 1048576) (hf : OnEach 161 #[ptr] w xs p) :
    Calls Try.prog 160 #[v, .func (.func 161) #[] #[ptr]] w fun e w' => e = .returned (.int .i64 (idx p xs)) ∧ Below w.heap.size w w' := by
  obtain ⟨A, c, he, hcap, hao⟩ := h
  injection he with he _
  subst he
  have HA := Aside.mk hao
  have HF := Aside.mk hf
  obtain ⟨n, hln⟩ : ∃ n, n = xs.length := ⟨_, rfl⟩
  have HL := Aside.mk hln
  rw [← hln] at hn hcap ⊢
  have H0 : Aside (∀ (j : Nat) (h : j < xs.length), j < 0 → p xs[j] = false) := ⟨fun _ _ h => absurd h (Nat.not_lt_zero _)⟩
  clear hao hf hln
  go_enter Try.func160, Try.ntmps160
  go_wp2_with fail
  go_loopw [8] (fun iv wr => ∃ i : Nat, i ≤ n ∧ iv = .int .i64 i ∧ Aside (Below w.heap.size w wr) ∧ Aside (∀ (j : Nat) (h : j < xs.length), j < i → p xs[j] = false)) (fun iv _ => n - (intOf iv).toNat)
  case atStart => exact ⟨0, Nat.zero_le _, rfl, ⟨Below.refl _ _⟩, H0⟩
  case round =>
    obtain ⟨i, hi, rfl, hbel, hall⟩ := hrel
    clear H0
    by_cases hlt : i < n
    · have hlt2 : i < xs.length := by rw [← HL.out]; exact hlt
      rcases HA.out with h0 | ⟨b, o, rfl, hb, f, hf, -, hrow⟩
      · exfalso; rw [h0] at hlt2; exact absurd hlt2 (Nat.not_lt_zero _)
      obtain ⟨cs, hr, hc⟩ := hrow i hlt2
      obtain ⟨c0, c1, c2, c3a, c3b, c3c, rfl⟩ := shapeTerm hr
      have hbel2 := hbel.out
      have d0 : wr.cell? ⟨b, o + i * 4, none⟩ = some (.int .i64 c0) := (hbel2.cell (p := ⟨b, o + i * 4 + 0, none⟩) hb).trans (hc 0 (by decide))
      have d1 : wr.cell? ⟨b, o + i * 4 + 1, none⟩ = some (.int .i64 c1) := (hbel2.cell (p := ⟨b, o + i * 4 + 1, none⟩) hb).trans (hc 1 (by decide))
      have d2 : wr.cell? ⟨b, o + i * 4 + 2, none⟩ = some (.string c2) := (hbel2.cell (p := ⟨b, o + i * 4 + 2, none⟩) hb).trans (hc 2 (by decide))
      have d3 : wr.cell? ⟨b, o + i * 4 + 3, none⟩ = some (.slice c3a c3b c3c) := (hbel2.cell (p := ⟨b, o + i * 4 + 3, none⟩) hb).trans (hc 3 (by decide))
      have HR := Aside.mk (Rec.term.up (w1 := wr) (Rec.term.mono hr (fun c hc => (hf i c hc).1)) (fun _ h => h) hbel2)
      clear hc hrow hf hbel2 hr
      go_wp2_with fail
      refine (HF.out xs[i] (List.getElem_mem hlt2) [.int .i64 c0, .int .i64 c1, .string c2, .slice c3a c3b c3c] _ hbel.out HR.out).mono ?_
      rintro e w2 ⟨rfl, hb2⟩
      have hbel2 := Aside.mk (below_later hbel.out hb2)
      clear d0 d1 d2 d3 HR hb2 hbel
      cases hp : p xs[i]
      · have hall2 : Aside (∀ (j : Nat) (h : j < xs.length), j < i + 1 → p xs[j] = false) := ⟨fun j hj hji => by
          by_cases e : j = i
          · subst e; exact hp
          · exact hall.out j hj (by omega)⟩
        clear hall hp
        go_wp2_with fail
        go_roundw
        case rel => exact ⟨i + 1, by omega, by go_num, hbel2, hall2⟩
        case measure => first | (simp [intOf]; done) | (simp [intOf]; omega)
      · have HP := Aside.mk hp
        clear hp
        go_wp2_with fail
        go_ret
        refine ⟨ret_int ?_, hbel2.out⟩
        have hl : (xs.takeWhile fun x => !p x).length = i := tw_len xs i (by omega) (fun j hj hji => by rw [hall.out j hj hji]; rfl) (fun h => by rw [HP.out]; rfl)
        rw [idx, hl, if_pos hlt2]
    · obtain rfl : i = n := by omega
      go_wp2_with fail
      go_ret
      refine ⟨ret_int ?_, hbel.out⟩
      have hl : (xs.takeWhile fun x => !p x).length = xs.length := tw_len xs _ (Nat.le_refl _) (fun j hj hji => by rw [hall.out j hj (by rw [HL.out]; exact hj)]; rfl) (fun h => absurd h (Nat.lt_irrefl _))
      rw [idx, hl, if_neg (Nat.lt_irrefl _)]
/-- A row's key, in memory. -/
theorem key_of {w : World} {r : T} {cs : List Value} (h : Rec.term.rd False w (Old w) r cs) (hk : 0 < r.kids.length) :
    ∃ cap bk ok c0 c1 c2 ca cl cc, cs = [.int .i64 r.kind, .int .i64 r.num, .string r.str, .slice (some ⟨bk, ok, none⟩) r.kids.length cap] ∧ bk < w.heap.size ∧
      w.cell? ⟨bk, ok, none⟩ = some (.int .i64 c0) ∧ w.cell? ⟨bk, ok + 1, none⟩ = some (.int .i64 c1) ∧ w.cell? ⟨bk, ok + 2, none⟩ = some (.string c2) ∧ w.cell? ⟨bk, ok + 3, none⟩ = some (.slice ca cl cc) ∧
      Rec.term.rd False w (Old w) (keyT r) [.int .i64 c0, .int .i64 c1, .string c2, .slice ca cl cc] := by
  obtain ⟨A, cap, rfl, hs⟩ := Rec.term_iff.1 h
  obtain ⟨_, _, he, _, hsl⟩ := hs
  injection he with he _
  injection he with e1 e2 e3
  subst e1
  rcases hsl with h0 | ⟨bk, ok, rfl, hbk, f2, hf2, -, hrk⟩
  · rw [h0] at hk; exact absurd hk (Nat.lt_irrefl _)
  obtain ⟨cs2, hrd3, hc2⟩ := hrk 0 hk
  obtain ⟨c0, c1, c2, ca, cl, cc, rfl⟩ := shapeTerm hrd3
  refine ⟨cap, bk, ok, c0, c1, c2, ca, cl, cc, rfl, hbk, ?_, ?_, ?_, ?_, ?_⟩
  · have := hc2 0 (by decide); simpa using this
  · have := hc2 1 (by decide); simpa using this
  · have := hc2 2 (by decide); simpa using this
  · have := hc2 3 (by decide); simpa using this
  · rw [keyT_eq r hk]
    exact Rec.term.mono hrd3 (fun c hc => (hf2 0 c hc).1)
set_option maxRecDepth 100000 in
set_option maxHeartbeats 2000000 in
theorem spanEach (key : T) (kc : List Value) (g : Nat) (w : World) (rows : List T) (hk : Rec.term.rd False w (Old w) key kc) (hkw : Rec.term.wt key ≤ 1048576) (hkr : key.right = true) (hg : Blk w g 26 kc) (hrows : ∀ r ∈ rows, rowB r = true ∧ Rec.term.wt r ≤ 1048576) :
    OnEach 161 #[.pointer (some ⟨g, 0, none⟩)] w rows (geK key) := by
  intro x hx cs w1 hb hr
  obtain ⟨hxb, hxw⟩ := hrows x hx
  obtain ⟨z0, z1, z2, z3a, z3b, z3c, rfl⟩ := shapeTerm hk
  have kx := (rowB_parts hxb).2.2
  obtain ⟨cap, bk, ok, c0, c1, c2, ca, cl, cc, rfl, hbk, g0, g1, g2, g3, hkr2⟩ := key_of hr kx
  have HR1 := Aside.mk hkr2
  have HR2 := Aside.mk (Rec.term.old hk hb)
  have hV := keyT_wt kx hxw
  have hKR := Aside.mk (key_right hxb)
  have hKR2 := Aside.mk hkr
  obtain ⟨wa, hwa⟩ : ∃ wa, wa = w1.alloc (.cells #[.int .i64 x.kind, .int .i64 x.num, .string x.str, .slice (some ⟨bk, ok, none⟩) x.kids.length cap] 26) := ⟨_, rfl⟩
  have hba : Below w1.heap.size w1 wa := by rw [hwa]; exact (Below.refl _ _).alloc (Nat.le_refl _) _
  have KB : Blk wa w1.heap.size 26 [.int .i64 x.kind, .int .i64 x.num, .string x.str, .slice (some ⟨bk, ok, none⟩) x.kids.length cap] := by rw [hwa]; exact Blk.new _ _ _
  have hg1 := (hg.below hb).below hba
  have f0 := hg1.cell 0
  have f1 := hg1.cell 1
  have f2 := hg1.cell 2
  have f3 := hg1.cell 3
  have u3 := KB.cell 3
  simp only [List.getElem?_cons_zero, List.getElem?_cons_succ] at f0 f1 f2 f3 u3
  replace g0 := (hba.cell (p := ⟨bk, ok, none⟩) hbk).trans g0
  replace g1 := (hba.cell (p := ⟨bk, ok + 1, none⟩) hbk).trans g1
  replace g2 := (hba.cell (p := ⟨bk, ok + 2, none⟩) hbk).trans g2
  replace g3 := (hba.cell (p := ⟨bk, ok + 3, none⟩) hbk).trans g3
  have HBA := Aside.mk hba
  have HWA := Aside.mk hwa
  have kp : (0 : Int) < x.kids.length := by omega
  obtain ⟨res, hres⟩ : ∃ r, r = geK key x := ⟨_, rfl⟩
  rw [← hres]
  have HV : Aside (res = decide (0 ≤ T.cmp (keyT x) key)) := ⟨hres⟩
  show Calls Try.prog 161 #[.agg #[.int .i64 x.kind, .int .i64 x.num, .string x.str, .slice (some ⟨bk, ok, none⟩) x.kids.length cap], .pointer (some ⟨g, 0, none⟩)] w1 _
  clear hkr2 hr hk hg hg1 hrows hres hb hx hxb hxw hkr hba hwa KB hbk
  go_enter Try.func161, Try.ntmps161
  go_wp2_with fail
  rw [← HWA.out]
  go_still_tail 5, (by kernel_rfl)
  change wpList _ _ _ _ _ wa.drew
  go_wp2_with fail
  refine (compare (keyT x) key [.int .i64 c0, .int .i64 c1, .string c2, .slice ca cl cc] [.int .i64 z0, .int .i64 z1, .string z2, .slice z3a z3b z3c] _ (Rec.term.old HR1.out HBA.out.drew) (Rec.term.old HR2.out HBA.out.drew) hV hkw hKR.out hKR2.out).mono ?_
  rintro e w2 ⟨rfl, hb2⟩
  have B2 : Aside (Below w1.heap.size w1 w2) := ⟨below_later HBA.out.drew hb2⟩
  clear hb2 g0 g1 g2 g3 f0 f1 f2 f3 u3
  generalize T.cmp (keyT x) key = c at HV ⊢
  go_wp2
  go_ret
  exact ⟨ret_bool (by rw [HV.out]), B2.out⟩
end Go.Proofs.Ytdldgchkinflmaa.Fn
