/- Walks of copyTerm, copyTerms, atom and the reference's. Conditions: those of each theorem. -/
import Derived.Test.YtdldgchkinflmaaMark
import Derived.Test.YtdldgchkinflmaaGTerm
set_option linter.unusedVariables false
namespace Go.Proofs.Ytdldgchkinflmaa.Fn
open Go.RowKit Go.Proofs.Ytdldgchkinflmaa.Lib Go.Proofs.Ytdldgchkinflmaa.Plan

/-- What a copy's function of a term is to do. -/
def CopyOK (F : FuncId) (x : T) : Prop := ∀ (cs : List Value) (w1 : World), Rec.term.rd False w1 (Old w1) x cs → Rec.term.wt x ≤ 1073741824 →
  Calls Try.prog F #[.agg cs.toArray] w1 fun e w2 => ∃ cs2, e = .returned (.agg cs2.toArray) ∧ Rec.term.rd True w2 (Span w1.heap.size w2.heap.size) x cs2 ∧ Below w1.heap.size w1 w2
set_option maxRecDepth 100000 in
set_option maxHeartbeats 1000000 in
theorem copyTermsOf (xs : List T) (ih : ∀ x ∈ xs, CopyOK 90 x) (v : Value) (w : World) (hn : Rec.term.sl.wt xs ≤ 1073741824) (hv : Rec.term.sl.rd False w (Old w) xs [v]) :
    Calls Try.prog 81 #[v] w fun e w2 => ∃ v2, e = .returned v2 ∧ Rec.term.sl.rd True w2 (Span w.heap.size w2.heap.size) xs [v2] ∧ Below w.heap.size w w2 := by
  obtain ⟨i0, hi, hz0, hz1, hz2⟩ := info_parts infoTerm
  have HI := Aside.mk hi
  obtain ⟨ao, cap, he, hcap, hao⟩ := hv
  injection he with he _
  subst he
  have HIH := Aside.mk ih
  have HS := Aside.mk (fun (j : Nat) (h : j < xs.length) => Nat.le_trans (wt_le Rec.term xs j h) (Nat.le_trans (Nat.le_add_left _ _) hn))
  have HA := Aside.mk hao
  have hn1 : xs.length ≤ 1073741824 := Nat.le_trans (Nat.le_add_right _ _) hn
  obtain ⟨n, hl⟩ : ∃ n, n = xs.length := ⟨_, rfl⟩
  have HL := Aside.mk hl
  rw [← hl] at hn1 hcap ⊢
  clear hi hao hn hl ih
  by_cases hn0 : n = 0
  · subst hn0
    have hx : Aside (xs = []) := ⟨List.eq_nil_of_length_eq_zero HL.out.symm⟩
    go_enter Try.func81, Try.ntmps81
    go_wp2_with fail
    go_ret
    rw [hx.out]
    exact ⟨_, rfl, ⟨none, 0, rfl, Nat.le_refl _, Or.inl rfl⟩, Below.refl _ _⟩
  have hn2 : (n == 0) = false := by simpa using hn0
  have hn3 : ((n : Int) == 0) = false := by simpa using hn0
  clear hn0
  go_enter Try.func81, Try.ntmps81
  go_wp2_with (at_make; refine wpList_make_full _ rfl _ _ 24 rfl w.heap.size 26 i0 (.agg #[.int .i64 0, .int .i64 0, .string ⟨#[]⟩, .slice none 0 0]) 4 Try.underlying24 HI.out hz0 hz1 .i64 .i64 _ _ n rfl rfl rfl rfl ?sd1 ?sd2 ?sd3 ?_)
  case sd1 => first | omega | (rw [hz2]; omega)
  case sd2 => unfold maxLen; omega
  try (case sd3 => exact Nat.le_refl _)
  intro w1 hown hgr
  have hown2 : w1.ownsRow w.heap.size 26 Rec.term.k (.slice (some ⟨w.heap.size, 0, none⟩) n n) n _ := hown
  have HT := Aside.mk (Copied.start (R := Rec.term) (xs := xs) hown2 hgr)
  clear hown hown2 hgr HI hz0 hz1 hz2
  go_wp2_with fail
  go_loopw [14] (fun i wr => ∃ k : Nat, k ≤ n ∧ i = .int .i64 k ∧ Aside (Copied Rec.term 26 w wr xs n k)) (fun i _ => n - (intOf i).toNat)
  case atStart => exact ⟨0, Nat.zero_le _, rfl, HT⟩
  case round =>
    obtain ⟨k, hk, rfl, ht⟩ := hrel
    clear HT
    by_cases hlt : k < n
    · have hlt2 : k < xs.length := by rw [← HL.out]; exact hlt
      rcases HA.out with h0 | ⟨b, o, rfl, hb, f, hf, -, hrow⟩
      · exfalso; rw [h0] at hlt2; exact absurd hlt2 (Nat.not_lt_zero _)
      obtain ⟨cs, hr, hc⟩ := hrow k hlt2
      obtain ⟨c0, c1, c2, c3a, c3b, c3c, rfl⟩ := shapeTerm hr
      have hbel := ht.out.choose_spec.2.2.1
      have d0 : wr.cell? ⟨b, o + k * 4, none⟩ = some (.int .i64 c0) := (hbel.cell (p := ⟨b, o + k * 4 + 0, none⟩) hb).trans (hc 0 (by decide))
      have d1 : wr.cell? ⟨b, o + k * 4 + 1, none⟩ = some (.int .i64 c1) := (hbel.cell (p := ⟨b, o + k * 4 + 1, none⟩) hb).trans (hc 1 (by decide))
      have d2 : wr.cell? ⟨b, o + k * 4 + 2, none⟩ = some (.string c2) := (hbel.cell (p := ⟨b, o + k * 4 + 2, none⟩) hb).trans (hc 2 (by decide))
      have d3 : wr.cell? ⟨b, o + k * 4 + 3, none⟩ = some (.slice c3a c3b c3c) := (hbel.cell (p := ⟨b, o + k * 4 + 3, none⟩) hb).trans (hc 3 (by decide))
      have HR := Aside.mk (Rec.term.up (Rec.term.mono hr (fun c hc => (hf k c hc).1)) (fun _ h => h) (hbel.alloc hbel.size (.cells #[.int .i64 c0, .int .i64 c1, .string c2, .slice c3a c3b c3c] 26)))
      clear hc hrow hf hbel hr
      go_wp2_with fail
      refine (HIH.out xs[k] (List.getElem_mem hlt2) [.int .i64 c0, .int .i64 c1, .string c2, .slice c3a c3b c3c] _ HR.out (HS.out k hlt2)).mono ?_
      rintro e w2 ⟨cs2, rfl, hr2, hb2⟩
      obtain ⟨v0, v1, v2, v3a, v3b, v3c, rfl⟩ := shapeTerm hr2
      have hr3 : Rec.term.rd True w2 (Span wr.heap.size w2.heap.size) xs[k] _ := Rec.term.mono hr2 (fun b h => ⟨by have := h.1; simp at this; omega, h.2⟩)
      have hb3 : Below wr.heap.size wr w2 := below_later (by go_grown) hb2
      obtain ⟨hcell, hfree⟩ := ht.out.blk hb3 hlt
      have HT2 := Aside.mk (ht.out.next hb3 HL.out.symm hlt2 hr3)
      obtain ⟨x0, y0⟩ : ∃ x, w2.cell? ⟨w.heap.size, k * 4, none⟩ = some x := hcell 0 (by decide)
      have z0 := hfree (k * 4)
      obtain ⟨x1, y1⟩ : ∃ x, w2.cell? ⟨w.heap.size, k * 4 + 1, none⟩ = some x := hcell 1 (by decide)
      have z1 := hfree (k * 4 + 1)
      obtain ⟨x2, y2⟩ : ∃ x, w2.cell? ⟨w.heap.size, k * 4 + 2, none⟩ = some x := hcell 2 (by decide)
      have z2 := hfree (k * 4 + 2)
      obtain ⟨x3, y3⟩ : ∃ x, w2.cell? ⟨w.heap.size, k * 4 + 3, none⟩ = some x := hcell 3 (by decide)
      have z3 := hfree (k * 4 + 3)
      clear hcell hfree hr2 hr3 hb2 hb3 ht d0 d1 d2 d3 HR
      go_wp2_with fail
      go_roundw
      case rel => exact ⟨k + 1, by omega, by go_num, HT2⟩
      case measure => first | (simp [intOf]; done) | (simp [intOf]; omega)
    · obtain rfl : k = n := by omega
      go_wp2_with fail
      go_ret
      exact ⟨_, rfl, ht.out.done HL.out.symm, ht.out.choose_spec.2.2.1⟩
set_option maxRecDepth 100000 in
set_option maxHeartbeats 1000000 in
theorem copyTerm (a : T) : CopyOK 90 a := by
  induction a using T.ind with
  | h a0 a1 a2 a3 ih =>
  intro cs w h hw
  obtain ⟨A3, c3, rfl, h3⟩ := Rec.term_iff.1 h
  change Rec.term.sl.rd False w (Old w) a3 [.slice A3 a3.length c3] at h3
  have hw3 := Rec.term_wt (.mk a0 a1 a2 a3)
  change _ = a2.size + Rec.term.sl.wt a3 at hw3
  have W3 : Rec.term.sl.wt a3 ≤ 1073741824 := by omega
  have H3 := Aside.mk h3
  have HIH := Aside.mk ih
  show Calls Try.prog 90 #[.agg #[.int .i64 a0, .int .i64 a1, .string a2, .slice A3 a3.length c3]] w _
  clear h3 hw3 hw h ih
  go_enter Try.func90, Try.ntmps90
  go_wp2_with fail
  refine (copyTermsOf a3 HIH.out _ _ W3 (Rec.term.sl.old H3.out (by go_grown))).mono ?_
  rintro e w1 ⟨r3, rfl, hr3, hb1⟩
  have hs1 : w.heap.size + 2 ≤ w1.heap.size := by have := hb1.size; simp at this; omega
  have hr3 : Rec.term.sl.rd True w1 (Span (w.heap.size + 2) w1.heap.size) a3 [r3] := Rec.term.sl.mono hr3 (fun b h => ⟨by have := h.1; simp at this; omega, h.2⟩)
  obtain ⟨B3, d3, he, -⟩ := id hr3
  injection he with he _
  subst he
  have HR3 := Aside.mk hr3
  have k0 := ((Blk.new w 26 [.int .i64 a0, .int .i64 a1, .string a2, .slice A3 a3.length c3]).alloc _).below hb1
  have k1 := (Blk.made (w.alloc _) 26 [.int .i64 0, .int .i64 0, .string ⟨#[]⟩, .slice none 0 0] (g := w.heap.size + 1) (by simp)).below hb1
  have bel : Below w.heap.size w w1 := below_later (by go_grown) hb1
  have y0_0 : w1.cell? ⟨w.heap.size, 0, none⟩ = some (.int .i64 a0) := k0.cell 0
  have y1_0 : w1.cell? ⟨w.heap.size + 1, 0, none⟩ = some (.int .i64 0) := k1.cell 0
  have z0_0 := k0.free 0
  have z1_0 := k1.free 0
  have y0_1 : w1.cell? ⟨w.heap.size, 1, none⟩ = some (.int .i64 a1) := k0.cell 1
  have y1_1 : w1.cell? ⟨w.heap.size + 1, 1, none⟩ = some (.int .i64 0) := k1.cell 1
  have z0_1 := k0.free 1
  have z1_1 := k1.free 1
  have y0_2 : w1.cell? ⟨w.heap.size, 2, none⟩ = some (.string a2) := k0.cell 2
  have y1_2 : w1.cell? ⟨w.heap.size + 1, 2, none⟩ = some (.string ⟨#[]⟩) := k1.cell 2
  have z0_2 := k0.free 2
  have z1_2 := k1.free 2
  have y0_3 : w1.cell? ⟨w.heap.size, 3, none⟩ = some (.slice A3 a3.length c3) := k0.cell 3
  have y1_3 : w1.cell? ⟨w.heap.size + 1, 3, none⟩ = some (.slice none 0 0) := k1.cell 3
  have z0_3 := k0.free 3
  have z1_3 := k1.free 3
  have K1 := Aside.mk k1
  have BEL := Aside.mk bel
  clear k0 k1 bel hb1 hr3
  go_wp2_with fail
  have k1 := K1.out
  have bel := BEL.out
  refine bodyPost_ret (res_c rfl _ _ (w.heap.size + 1) 26 [.int .i64 a0, .int .i64 a1, .string a2, .slice B3 a3.length d3] _ rfl ?k Try.underlying26 rfl (by kernel_rfl)) rfl ⟨_, rfl, ?r, ?b⟩
  case k => exact (((((k1.far (by simp) _).set 0 _).set 1 _).set 2 _).set 3 _)
  case b => go_grown
  case r =>
    refine Rec.term_iff.2 ⟨_, _, rfl, Rec.term.sl.mono (Rec.term.sl.over HR3.out (fun b h1 h2 => by rw [heap_far (by omega)]; rw [heap_far (by omega)]; rw [heap_far (by omega)]; rw [heap_far (by omega)]; rw [heap_far (by omega)])) (fun b h => by simp [Span] at h ⊢ <;> omega)⟩
theorem copyTerms (xs : List T) (v : Value) (w : World) (hn : Rec.term.sl.wt xs ≤ 1073741824) (hv : Rec.term.sl.rd False w (Old w) xs [v]) :
    Calls Try.prog 81 #[v] w fun e w2 => ∃ v2, e = .returned v2 ∧ Rec.term.sl.rd True w2 (Span w.heap.size w2.heap.size) xs [v2] ∧ Below w.heap.size w w2 :=
  copyTermsOf xs (fun x _ => copyTerm x) v w hn hv
/-- A name's term. -/
def atomT (s : ByteArray) : T := .mk 2 0 s []
theorem atomT_rd (tr : Prop) (w : World) (S : Nat → Prop) (s : ByteArray) : Rec.term.rd tr w S (atomT s) [.int .i64 2, .int .i64 0, .string s, .slice none 0 0] :=
  Rec.term_iff.2 ⟨none, 0, rfl, none, 0, rfl, Nat.le_refl _, Or.inl rfl⟩
def noT : T := .mk 0 0 ⟨#[]⟩ []
theorem noT_rd (tr : Prop) (w : World) (S : Nat → Prop) : Rec.term.rd tr w S noT [.int .i64 0, .int .i64 0, .string ⟨#[]⟩, .slice none 0 0] :=
  Rec.term_iff.2 ⟨none, 0, rfl, none, 0, rfl, Nat.le_refl _, Or.inl rfl⟩
theorem atom (s : ByteArray) (w : World) : Calls Try.prog 239 #[.string s] w fun e w2 => e = .returned (.agg #[.int .i64 2, .int .i64 0, .string s, .slice none 0 0]) ∧ Below w.heap.size w w2 := by
  go_enter Try.func239, Try.ntmps239
  go_wp2_with fail
  refine bodyPost_ret (res_c rfl _ _ w.heap.size 26 [.int .i64 2, .int .i64 0, .string s, .slice none 0 0] _ rfl ?k Try.underlying26 rfl (by kernel_rfl)) rfl ⟨rfl, ?b⟩
  case k => exact Blk.new w 26 [.int .i64 2, .int .i64 0, .string s, .slice none 0 0]
  case b => go_grown
theorem l01Atom (s : ByteArray) (w : World) : Calls Try.prog 150 #[.string s] w fun e w2 => e = .returned (.agg #[.int .i64 2, .int .i64 0, .string s, .slice none 0 0]) ∧ Below w.heap.size w w2 := by
  go_enter Try.func150, Try.ntmps150
  go_wp2_with fail
  refine bodyPost_ret (res_c rfl _ _ w.heap.size 26 [.int .i64 2, .int .i64 0, .string s, .slice none 0 0] _ rfl ?k Try.underlying26 rfl (by kernel_rfl)) rfl ⟨rfl, ?b⟩
  case k => exact Blk.new w 26 [.int .i64 2, .int .i64 0, .string s, .slice none 0 0]
  case b => go_grown
end Go.Proofs.Ytdldgchkinflmaa.Fn
