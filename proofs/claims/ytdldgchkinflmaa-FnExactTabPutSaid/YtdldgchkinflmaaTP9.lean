/- The reference's out of TabPut: a table in a box whose rows grow, its rows not copied; l01Copies. Conditions: those of each theorem. -/
import Derived.Test.YtdldgchkinflmaaTPp
import Derived.Test.YtdldgchkinflmaaTD2
import Derived.Test.YtdldgchkinflmaaCopy2
set_option linter.unusedVariables false
namespace Go.Proofs.Ytdldgchkinflmaa.Fn
open Go Go.RowKit Go.Proofs.Ytdldgchkinflmaa.Lib Go.Proofs.Ytdldgchkinflmaa.Plan
attribute [local go_sem] look_tmp look_const look_func look_global lookT_nil lookT_hit lookT_miss

/-- A table in box go: its rows grow, what they hold is older than the call. -/
def OutAt (go : Nat) (ty : Int) (w wr : World) (l : List T) (v : Value) : Prop :=
  w.heap.size + 3 ≤ go ∧ Blk wr go 42 [.int .i64 ty, v] ∧ v.ownBlock ≠ some go ∧ Below w.heap.size w wr ∧ Grow (Rec.nb Rec.term go) 26 False (w.heap.size + 3) wr.heap.size wr l v
theorem OutAt.below {go : Nat} {ty : Int} {w wr w2 : World} {l : List T} {v : Value} (h : OutAt go ty w wr l v) (hb : Below wr.heap.size wr w2) : OutAt go ty w w2 l v := by
  obtain ⟨h1, h2, h3, h4, h5⟩ := h
  exact ⟨h1, h2.below hb, h3, below_later h4 hb, (h5.below hb).top⟩
theorem OutAt.app {go : Nat} {ty : Int} {w wr : World} {l : List T} {Av : Option Addr} {m cv : Nat} (h : OutAt go ty w wr l (.slice Av m cv)) (hm : l.length = m) (hm1 : m ≤ 4194304) (y : T) (cells : List Value) (hy : Rec.term.rd False wr (Old w) y cells) (q : Nat) (hq : q = wr.heap.size) :
    ∃ g cap w' w9, (Builtin.append_ #[24, 24] 24 #[.slice Av m cv, .slice (some ⟨q, 0, none⟩) 1 1]).run Try.prog (wr.alloc (.cells cells.toArray 26)) = .ok (.slice (some ⟨g, 0, none⟩) (m + 1) cap) w' ∧ Blk w' go 42 [.int .i64 ty, .slice Av m cv] ∧
      w9 = w'.setCell ⟨go, 1, none⟩ (.slice (some ⟨g, 0, none⟩) (m + 1) cap) ∧ OutAt go ty w w9 (l ++ [y]) (.slice (some ⟨g, 0, none⟩) (m + 1) cap) ∧ (∀ b, b < w.heap.size + 3 → w'.heap[b]? = wr.heap[b]?) ∧ (∀ b, b < w.heap.size + 3 → w9.heap[b]? = wr.heap[b]?) ∧ But (fun c => c = go ∨ (Value.slice Av m cv).ownBlock = some c) wr w' := by
  obtain ⟨h1, h2, h3, h4, h5⟩ := h
  subst hq
  obtain ⟨i0, hi0, hz0, hz1, hz2⟩ := info_parts infoTerm
  have hown := fun g (hg' : (Value.slice Av m cv).ownBlock = some g) => own_lt h5.2.choose_spec.choose_spec.1 hg'
  have hsz : w.heap.size ≤ wr.heap.size := h4.size
  have hgl : go < wr.heap.size := h2.lt
  obtain ⟨g8, cv8, w8, hrun, hg8, hgr8, hor8⟩ := run_growP (P := Try.prog) (R := Rec.nb Rec.term go) (E := 26) (tr := False) (base := w.heap.size + 3) (top := wr.heap.size) i0 _ 56 24 24 Try.underlying24 hi0 hz0 hz1 hz2 rfl (show 0 < 4 by decide) (xs := l) (y := y) h5 (by omega) 26 cells (F := Old w) (Rec.nb_rd hy (fun b hb => by have h1 : b < w.heap.size := hb; omega))
    (fun c hc => ⟨by have h1 : c < w.heap.size := hc; omega, fun e => by have h1 := (hown c e).1; have h2 : c < w.heap.size := hc; omega, fun h => h.elim⟩) (by
      obtain ⟨x0, x1, x2, x3a, x3b, x3c, rfl⟩ := shapeTerm hy
      intro u hu
      simp only [List.mem_cons, List.not_mem_nil, or_false] at hu
      rcases hu with rfl | rfl | rfl | rfl <;> rfl) (by unfold maxLen; omega) (by omega)
  rw [hm] at hrun hg8
  have hba : Below wr.heap.size wr (wr.alloc (.cells cells.toArray 26)) := (Below.refl _ _).alloc (Nat.le_refl _) _
  have hgo8 : Blk w8 go 42 [.int .i64 ty, .slice Av m cv] := (h2.below hba).grown hgr8 (fun e => h3 e.symm)
  have bel8 : Below w.heap.size w w8 := (h4.alloc hsz (.cells cells.toArray 26)).grown hgr8 (by simp; omega) (fun k hk => by have := (hown k hk).1; omega)
  have hne8 : g8 ≠ go := fun e => by rcases hor8 with h | h; exact h3 (by rw [h, e]); omega
  have hs8 : wr.heap.size ≤ w8.heap.size := Nat.le_trans hba.size hgr8.size
  have keep8 : ∀ b, b < w.heap.size + 3 → w8.heap[b]? = wr.heap[b]? := fun b hb => (hgr8.block b (by have := hba.size; omega) (fun e => by have := (hown b e.symm).1; omega)).trans (hba.block b (by omega))
  refine ⟨g8, cv8, w8, _, hrun, hgo8, rfl, ⟨h1, hgo8.set 1 _, fun e => by injection e with e; exact hne8 e, bel8.setCell (by show w.heap.size ≤ go; omega) _, ?_⟩, keep8, fun b hb => ?_, ?_⟩
  · have hne9 : (Value.slice (some ⟨g8, 0, none⟩) (m + 1) cv8).ownBlock ≠ some go := fun e => by injection e with e; exact hne8 e
    exact (hg8.skip hne9 ((But.refl (fun c => c = go) w8).set (p := ⟨go, 1, none⟩) rfl (.slice (some ⟨g8, 0, none⟩) (m + 1) cv8))).top
  · rw [heap_far (show b ≠ go by omega)]
    exact keep8 b hb
  · exact (But.below hba).trans ⟨hgr8.os, hgr8.tape, hgr8.output, hgr8.size, fun k hk hn => hgr8.block k hk (fun e => hn (Or.inr e.symm))⟩
set_option maxRecDepth 100000 in
set_option maxHeartbeats 1000000 in
theorem l01Copies (xs : List T) (v : Value) (w : World) (hv : Rec.term.sl.rd False w (Old w) xs [v]) (hw : Rec.term.sl.wt xs ≤ 1073741824) :
    Calls Try.prog 88 #[v] w fun e w2 => ∃ v2, e = .returned v2 ∧ Rec.term.sl.rd True w2 (Span w.heap.size w2.heap.size) xs [v2] ∧ Below w.heap.size w w2 := by
  obtain ⟨A, cap, he, hcap, hao⟩ := id hv
  injection he with he _
  subst he
  have H0 : Aside (Rec.term.rd False w (Old w) (T.mk 0 0 ⟨#[]⟩ xs) [.int .i64 0, .int .i64 0, .string ⟨#[]⟩, .slice A xs.length cap]) := ⟨Rec.term_iff.2 ⟨A, cap, rfl, hv⟩⟩
  have hw3 := Rec.term_wt (.mk 0 0 ⟨#[]⟩ xs)
  change _ = 0 + Rec.term.sl.wt xs at hw3
  have W3 : Rec.term.wt (T.mk 0 0 ⟨#[]⟩ xs) ≤ 1073741824 := by omega
  obtain ⟨n, hl⟩ : ∃ n, n = xs.length := ⟨_, rfl⟩
  rw [← hl] at H0 hcap ⊢
  have HL := Aside.mk hl
  clear hao hv hw3 hl hw
  go_enter Try.func88, Try.ntmps88
  go_wp2_with fail
  refine (l01Copy (T.mk 0 0 ⟨#[]⟩ xs) [.int .i64 0, .int .i64 0, .string ⟨#[]⟩, .slice A n cap] _ H0.out W3).mono ?_
  rintro e w2 ⟨cs2, rfl, hr2, hb2⟩
  obtain ⟨A3, c3, e3, h3⟩ := Rec.term_iff.1 hr2
  change cs2 = [.int .i64 0, .int .i64 0, .string ⟨#[]⟩, .slice A3 xs.length c3] at e3
  subst e3
  change Rec.term.sl.rd True w2 (Span w.heap.size w2.heap.size) xs [.slice A3 xs.length c3] at h3
  have HR := Aside.mk h3
  have HB := Aside.mk hb2
  clear hr2 hb2 h3
  have hfd : ∀ w : World, (Instr.field 26 (.agg #[.int .i64 0, .int .i64 0, .string ⟨#[]⟩, .slice A3 xs.length c3]) 3).run Try.prog w = .ok (.slice A3 xs.length c3) w := fun _ => by kernel_rfl
  go_wp2_with fail
  go_ret
  exact ⟨_, rfl, HR.out, HB.out⟩
end Go.Proofs.Ytdldgchkinflmaa.Fn
