/- append of a whole slice onto a row of the call's own; slices.Grow of nil; slices.Concat of two. Conditions: those of each theorem. -/
import Derived.Test.YtdldgchkinflmaaTD1
import Derived.Test.YtdldgchkinflmaaGrowL
import Derived.Test.YtdldgchkinflmaaButC
import Derived.Lib.AppendZeros
set_option linter.unusedVariables false
namespace Go.Proofs.Ytdldgchkinflmaa.Lib
open Go Go.RowKit Go.Proofs.Ytdldgchkinflmaa.Plan

theorem flat_at {k : Nat} (hk : 0 < k) : ∀ (cs : List (List Value)) (h : ∀ c ∈ cs, c.length = k) (j : Nat) (u : Value), cs.flatten[j]? = some u → ∃ c, cs[j / k]? = some c ∧ c[j % k]? = some u
  | [], _, j, u, h => by simp at h
  | c :: cs, h, j, u, hu => by
    rw [List.flatten_cons] at hu
    have hc := h c (by simp)
    by_cases hj : j < k
    · rw [List.getElem?_append_left (by omega)] at hu
      refine ⟨c, ?_, ?_⟩
      · rw [Nat.div_eq_of_lt hj]; rfl
      · rw [Nat.mod_eq_of_lt hj]; exact hu
    · rw [List.getElem?_append_right (by omega), hc] at hu
      obtain ⟨d, h1, h2⟩ := flat_at hk cs (fun x hx => h x (List.mem_cons_of_mem _ hx)) (j - k) u hu
      refine ⟨d, ?_, ?_⟩
      · rw [show j / k = (j - k) / k + 1 from by rw [Nat.div_eq_sub_div hk (by omega)], List.getElem?_cons_succ]; exact h1
      · rw [show j % k = (j - k) % k from by rw [Nat.mod_eq_sub_mod (by omega)]]; exact h2
theorem append_none {P : Program} (w : World) (t ty e : TypeId) (i : TypeInfo) (ht : P.underlying t = some (.slice e)) (hi : P.info? e = some i) (B A : Option Addr) (sLen sCap c : Nat) (hle : sLen ≤ sCap) :
    (Builtin.append_ #[t, t] ty #[.slice B sLen sCap, .slice A 0 c]).run P w = .ok (.slice B sLen sCap) w := by
  cases B <;> cases A <;> simp [Builtin.append_, run_underlying ht, sizeOf, typeInfo, hi, hle, storeCells, Builtin.lenOf, Builtin.firstCells, loadCells, loadCellsFrom]
/-- append of a slice, from wherever it lies. -/
theorem run_growS {α : Type} {P : Program} {R : Rec α} {E : TypeId} {base top : Nat} (i : TypeInfo) (z : Value) (bytes : Nat) (t ty : TypeId) (ht : P.underlying t = some (.slice E)) (hi : P.info? E = some i) (hz : i.zero = some z) (hsize : i.size = R.k) (hby : i.bytes = bytes) (hzs : z.cells.size = R.k) (hsz : 0 < R.k)
    (hone : ∀ {tr w S a cs}, R.rd tr w S a cs → ∀ u ∈ cs, u.oneCell' = true) {w1 : World} {xs ys : List α} {v x : Value} {G : Nat → Prop} (hG : Grow R E False base top w1 xs v) (hbase : base ≤ w1.heap.size) (hx : R.sl.rd False w1 G ys [x]) (hF : ∀ c, G c → c < w1.heap.size ∧ v.ownBlock ≠ some c)
    (h63 : xs.length + ys.length ≤ maxLen) (hbytes : (xs.length + ys.length) * bytes ≤ 140737488355328) :
    ∃ v' w', (Builtin.append_ #[t, t] ty #[v, x]).run P w1 = .ok v' w' ∧ Grow R E False base w'.heap.size w' (xs ++ ys) v' ∧ Below base w1 w' := by
  obtain ⟨A, c0, e, hcap, hs⟩ := hx
  injection e with e _
  subst e
  obtain ⟨B, cB, rfl, hcB⟩ := hG.shape
  by_cases h0 : ys = []
  · subst h0
    exact ⟨_, w1, append_none w1 t ty E i ht hi B A _ _ c0 hcB, by rw [List.append_nil]; exact hG.top, Below.refl _ _⟩
  rcases hs with hs | ⟨b, o, rfl, hb, f, hf, -, hrow⟩
  · exact absurd hs h0
  have hpos : 0 < ys.length := List.length_pos_iff.2 h0
  have hch : ∃ css : List (List Value), css.length = ys.length ∧ ∀ (j : Nat) (h : j < ys.length), ∃ cj, css[j]? = some cj ∧ R.rd False w1 (f j) ys[j] cj ∧ ∀ t, t < R.k → w1.cell? ⟨b, o + j * R.k + t, none⟩ = cj[t]? := by
    refine ⟨(List.range ys.length).map (fun j => if h : j < ys.length then (hrow j h).choose else []), by simp, fun j hj => ⟨(hrow j hj).choose, ?_, (hrow j hj).choose_spec⟩⟩
    simp [hj]
  obtain ⟨css, hl, hall⟩ := hch
  have hy : ∀ (j : Nat) (h : j < ys.length), ∃ cj, css[j]? = some cj ∧ R.rd False w1 (f j) ys[j] cj := fun j hj => by
    obtain ⟨cj, h1, h2, _⟩ := hall j hj
    exact ⟨cj, h1, h2⟩
  have hlen := cells_len hl hy
  obtain ⟨g, cap, w', h1, h2, h3, -⟩ := run_growL (P := P) (tr := False) i z bytes t ty ht hi hz hsize hby hzs hsz hG hbase ⟨b, o, none⟩ c0 css f hl hy (fun j _ c hc => ⟨(hF c (hf j c hc).1).1, (hF c (hf j c hc).1).2, fun h => h.elim⟩) (fun h => h.elim)
    (fun j u hu => by
      obtain ⟨c, hc1, hc2⟩ := flat_at hsz css hlen j u hu
      have hjl : j / R.k < ys.length := by rw [← hl]; exact (List.getElem?_eq_some_iff.1 hc1).1
      obtain ⟨cj, e1, -, e3⟩ := hall _ hjl
      rw [hc1] at e1
      injection e1 with e1
      subst e1
      have hd : j / R.k * R.k + j % R.k = j := by rw [Nat.mul_comm]; exact Nat.div_add_mod j R.k
      have := e3 (j % R.k) (Nat.mod_lt _ hsz)
      rw [hc2, Nat.add_assoc, hd] at this
      rw [show (⟨b, o, none⟩ : Addr).add j = ⟨b, o + j, none⟩ from by unfold Addr.add; split <;> simp_all]
      exact this)
    (fun u hu => by
      obtain ⟨c, hc, hu⟩ := List.mem_flatten.1 hu
      obtain ⟨j, hj, rfl⟩ := List.mem_iff_getElem.1 hc
      obtain ⟨cj, e1, e2, -⟩ := hall j (by omega)
      rw [List.getElem?_eq_getElem hj] at e1
      injection e1 with e1
      exact hone e2 u (by rw [← e1]; exact hu)) hpos h63 hbytes
  exact ⟨_, w', h1, h2, h3⟩
/-- Values that keep out of a block. -/
def Rec.nb {α : Type} (R : Rec α) (g : Nat) : Rec α where
  k := R.k
  wt := R.wt
  ok := R.ok
  rd tr w S a cs := R.rd tr w (fun b => S b ∧ b ≠ g) a cs
  len h := R.len h
  frame h h1 h2 := R.frame h (fun b hb => h1 b hb.1) (fun b hb => ⟨h2 b hb.1, hb.2⟩)
  weak h := R.weak h
theorem Rec.nb_rd {α : Type} {R : Rec α} {g : Nat} {tr : Prop} {w : World} {S : Nat → Prop} {a : α} {cs : List Value} (h : R.rd tr w S a cs) (hg : ∀ b, S b → b ≠ g) : (R.nb g).rd tr w S a cs := R.mono h (fun b hb => ⟨hb, hg b hb⟩)
theorem Rec.nb_sl {α : Type} {R : Rec α} {g : Nat} {tr : Prop} {w : World} {S : Nat → Prop} {xs : List α} {cs : List Value} (h : (R.nb g).sl.rd tr w S xs cs) : R.sl.rd tr w S xs cs := by
  obtain ⟨A, cap, e, hc, hs⟩ := h
  exact ⟨A, cap, e, hc, hs.frame (fun j hj f cs hf hr => R.mono hr (fun b hb => hb.1)) (fun _ _ => rfl) (fun _ h => h) id⟩
/-- What is written into the block that they keep out of leaves a row that has none of it. -/
theorem Grow.skip {α : Type} {R : Rec α} {g : Nat} {E : TypeId} {tr : Prop} {base top : Nat} {wr w2 : World} {xs : List α} {v : Value} (h : Grow (R.nb g) E tr base top wr xs v) (hv : v.ownBlock ≠ some g) (hb : But (fun c => c = g) wr w2) : Grow (R.nb g) E tr base top w2 xs v := by
  obtain ⟨h0, cs, f, h1, h2, h3, h4, h5⟩ := h
  refine ⟨⟨Nat.le_trans h0.1 hb.size, h0.2⟩, cs, fun j c => f j c ∧ c ≠ g, ownsRow_of_block h1 (fun q hq => ?_), h2, fun j c hc => h3 j c hc.1, fun t i j hij c hi hj => h4 t i j hij c hi.1 hj.1, fun j hj => ?_⟩
  · exact hb.block q (own_lt h1 hq).2 (fun e => hv (by rw [hq, e]))
  · obtain ⟨cj, e, hr⟩ := h5 j hj
    exact ⟨cj, e, R.frame hr (fun b hb' => hb.block b (Nat.lt_of_lt_of_le (h3 j b hb'.1).1 h0.1) hb'.2) (fun b hb' => ⟨⟨hb'.1, hb'.2⟩, hb'.2⟩)⟩
/-- append of one value, which lies in a block made for it: with what it leaves, block by block. -/
theorem run_growP {α : Type} {P : Program} {R : Rec α} {E : TypeId} {tr : Prop} {base top : Nat} (i : TypeInfo) (z : Value) (bytes : Nat) (t ty : TypeId) (ht : P.underlying t = some (.slice E)) (hi : P.info? E = some i) (hz : i.zero = some z) (hsize : i.size = R.k) (hby : i.bytes = bytes) (hzs : z.cells.size = R.k) (hsz : 0 < R.k)
    {w0 : World} {xs : List α} {v : Value} (hG : Grow R E tr base top w0 xs v) (hbase : base ≤ w0.heap.size) (E2 : TypeId) (cells : List Value) {F : Nat → Prop} {y : α} (hy : R.rd tr w0 F y cells) (hF : ∀ c, F c → c < w0.heap.size ∧ v.ownBlock ≠ some c ∧ (tr → base ≤ c ∧ top ≤ c))
    (h1 : ∀ u ∈ cells, u.oneCell' = true) (h63 : xs.length + 1 ≤ maxLen) (hbytes : (xs.length + 1) * bytes ≤ 140737488355328) :
    ∃ g cap w', (Builtin.append_ #[t, t] ty #[v, .slice (some ⟨w0.heap.size, 0, none⟩) 1 1]).run P (w0.alloc (.cells cells.toArray E2)) = .ok (.slice (some ⟨g, 0, none⟩) (xs.length + 1) cap) w' ∧ Grow R E tr base w'.heap.size w' (xs ++ [y]) (.slice (some ⟨g, 0, none⟩) (xs.length + 1) cap) ∧ (w0.alloc (.cells cells.toArray E2)).grownBy w' v.ownBlock ∧ (v.ownBlock = some g ∨ g = w0.heap.size + 1) := by
  obtain ⟨g, cap, w', hr, h2, -⟩ := run_grow (P := P) i z bytes t ty ht hi hz hsize hby hzs hsz hG hbase E2 cells hy hF h1 h63 hbytes
  have hG1 : Grow R E tr base top (w0.alloc (.cells cells.toArray E2)) xs v := hG.below ((Below.refl _ _).alloc (Nat.le_refl _) _)
  obtain ⟨h0, cs, f, g1, g2, g3, g4, g5⟩ := hG1
  have hcells : cells.length = R.k := R.len hy
  obtain ⟨v2, w2, hr2, hown, hgr, hnil, hblk⟩ := run_append_own_at (P := P) (ty := ty) (w := w0.alloc (.cells cells.toArray E2)) base t E i z R.k bytes ht hi hz hsize hby hzs hsz v xs.length cs.flatten g1 ⟨w0.heap.size, 0, none⟩ 1 1 cells (by rw [hcells, Nat.one_mul]) (fun j u hu => by
      rw [add_plain]
      exact ((Blk.new w0 E2 cells).cell j).trans hu) h1 h63 hbytes (by simp; omega)
  rw [hr] at hr2
  injection hr2 with e1 e2
  subst e1 e2
  refine ⟨g, cap, w', hr, h2, hgr, ?_⟩
  rcases hblk with h | h
  · exact Or.inl h.symm
  · injection h with h
    refine Or.inr (show g = w0.heap.size + 1 from ?_)
    have h : g = (w0.alloc (.cells cells.toArray E2)).heap.size := h
    rw [h]; simp
theorem term_one {tr : Prop} {w : World} {S : Nat → Prop} {a : T} {cs : List Value} (h : Rec.term.rd tr w S a cs) : ∀ u ∈ cs, u.oneCell' = true := by
  obtain ⟨A, c, rfl, -⟩ := Rec.term_iff.1 h
  intro u hu
  simp at hu
  rcases hu with rfl | rfl | rfl | rfl <;> rfl
end Go.Proofs.Ytdldgchkinflmaa.Lib
namespace Go.Proofs.Ytdldgchkinflmaa.Fn
open Go.RowKit Go.Proofs.Ytdldgchkinflmaa.Lib Go.Proofs.Ytdldgchkinflmaa.Plan
set_option maxRecDepth 100000 in
set_option maxHeartbeats 2000000 in
theorem growNil (n : Nat) (w : World) (hn : n ≤ 1048576) :
    Calls Try.prog 162 #[.slice none 0 0, .int .i64 n] w fun e w' => ∃ v, e = .returned v ∧ Grow Rec.term 26 False w.heap.size w'.heap.size w' [] v ∧ Below w.heap.size w w' := by
  obtain ⟨t0, hi0, hz0, hz1, hz2⟩ := info_parts infoTerm
  by_cases h0 : n = 0
  · subst h0
    go_enter Try.func162, Try.ntmps162
    go_wp2_with fail
    go_ret
    exact ⟨_, rfl, Grow.nil (Nat.le_refl _), Below.refl _ _⟩
  have hp : 0 < (n : Int) := by omega
  have hrun := Go.Lib.run_append_nil_zeros (P := Try.prog) w 24 3 24 26 t0 _ .i64 .i64 Try.underlying24 Try.underlying3 hi0 hz0 n (by omega) (by rw [hz1]; decide) (by omega) (by rw [hz2]; omega)
  have hge := grownCap_ge w n 0 26
  have hle := grownCap_le_maxLen w n 0 26 (by unfold maxLen; omega)
  generalize grownCap w n 0 26 = cap at hrun hge hle
  have hsz : (Builtin.zeroCells (Value.agg #[.int .i64 0, .int .i64 0, .string ⟨#[]⟩, .slice none 0 0]).cells n ++ Builtin.zeroCells (Value.agg #[.int .i64 0, .int .i64 0, .string ⟨#[]⟩, .slice none 0 0]).cells (cap - n)).size = cap * 4 := by
    rw [Array.size_append, size_zeroCells, size_zeroCells]
    show n * 4 + (cap - n) * 4 = cap * 4
    omega
  generalize Builtin.zeroCells (Value.agg #[.int .i64 0, .int .i64 0, .string ⟨#[]⟩, .slice none 0 0]).cells n ++ Builtin.zeroCells (Value.agg #[.int .i64 0, .int .i64 0, .string ⟨#[]⟩, .slice none 0 0]).cells (cap - n) = cur at hrun hsz
  have own := World.ownsRow_made (base := w.heap.size) (e := 26) (size := 4) w.drew cur cap (Nat.le_refl _) hle hsz
  have HRUN := Aside.mk hrun
  have OWN := Aside.mk own
  have BEL : Aside (Below w.heap.size w (w.drew.alloc (.cells cur 26))) := ⟨(Below.refl _ _).drew.alloc (Nat.le_refl _) _⟩
  clear hi0 hz0 hz1 hz2 hrun own hsz hle
  go_enter Try.func162, Try.ntmps162
  go_wp2_with (at_builtin; refine Go.Lib.wpList_append_run _ rfl _ _ _ _ rfl _ _ rfl rfl _ _ HRUN.out ?_)
  go_ret
  exact ⟨_, rfl, ⟨⟨Nat.le_refl _, fun g hg => (own_lt OWN.out hg).2⟩, [], fun _ _ => False, OWN.out, rfl, fun _ _ h => h.elim, fun _ _ _ _ _ h => h.elim, fun j h => absurd h (Nat.not_lt_zero _)⟩, BEL.out⟩
set_option maxRecDepth 100000 in
set_option maxHeartbeats 4000000 in
theorem concat2 (xs ys : List T) (A1 A2 : Option Addr) (c1 c2 g : Nat) (w : World) (hk : Blk w g 24 [.slice A1 xs.length c1, .slice A2 ys.length c2]) (hx : Rec.term.sl.rd False w (Old w) xs [.slice A1 xs.length c1]) (hy : Rec.term.sl.rd False w (Old w) ys [.slice A2 ys.length c2]) (hl : xs.length + ys.length ≤ 1048576) :
    Calls Try.prog 82 #[.slice (some ⟨g, 0, none⟩) 2 2] w fun e w' => ∃ v, e = .returned v ∧ Rec.term.sl.rd False w' (Old w') (xs ++ ys) [v] ∧ Below w.heap.size w w' := by
  obtain ⟨t0, hi0, hz0, hz1, hz2⟩ := info_parts infoTerm
  have HI := Aside.mk hi0
  have HZ := Aside.mk hz0
  have HZ1 := Aside.mk hz1
  have HZ2 := Aside.mk hz2
  have HX := Aside.mk hx
  have HY := Aside.mk hy
  obtain ⟨n1, hn1⟩ : ∃ n, n = xs.length := ⟨_, rfl⟩
  obtain ⟨n2, hn2⟩ : ∃ n, n = ys.length := ⟨_, rfl⟩
  rw [← hn1] at hk HX hl
  rw [← hn2] at hk HY hl
  have HN1 := Aside.mk hn1
  have HN2 := Aside.mk hn2
  have k0 : w.cell? ⟨g, 0, none⟩ = some (.slice A1 n1 c1) := hk.cell 0
  have k1 : w.cell? ⟨g, 1, none⟩ = some (.slice A2 n2 c2) := hk.cell 1
  have HGL := Aside.mk hk.lt
  have KK0 := Aside.mk k0
  have KK1 := Aside.mk k1
  clear hi0 hz0 hz1 hz2 hx hy hn1 hn2 hk k0 k1
  go_enter Try.func82, Try.ntmps82
  go_wp2_with fail
  go_loopw [3, 11] (fun sv iv wr => ∃ k s : Nat, k ≤ 2 ∧ iv = .int .i64 k ∧ sv = .int .i64 s ∧ Aside ((k = 0 ∧ s = 0) ∨ (k = 1 ∧ s = n1) ∨ (k = 2 ∧ s = n1 + n2)) ∧ Aside (wr = w)) (fun _ iv _ => 2 - (intOf iv).toNat)
  case atStart => exact ⟨0, 0, by omega, rfl, rfl, ⟨Or.inl ⟨rfl, rfl⟩⟩, ⟨rfl⟩⟩
  case round =>
    obtain ⟨k, s, hk2, rfl, rfl, hs, hw⟩ := hrel
    have e0 : wr.cell? ⟨g, 0, none⟩ = some (.slice A1 n1 c1) := by rw [hw.out]; exact KK0.out
    have e1 : wr.cell? ⟨g, 1, none⟩ = some (.slice A2 n2 c2) := by rw [hw.out]; exact KK1.out
    rcases hs.out with ⟨rfl, rfl⟩ | ⟨rfl, rfl⟩ | ⟨rfl, rfl⟩
    · go_wp2_with fail
      go_roundw
      case rel => exact ⟨1, n1, by omega, by go_num, by go_num, ⟨Or.inr (Or.inl ⟨rfl, rfl⟩)⟩, hw⟩
      case measure => first | (simp [intOf]; done) | (simp [intOf]; omega)
    · go_wp2_with fail
      go_roundw
      case rel => exact ⟨2, s + n2, by omega, by go_num, by go_num, ⟨Or.inr (Or.inr ⟨rfl, rfl⟩)⟩, hw⟩
      case measure => first | (simp [intOf]; done) | (simp [intOf]; omega)
    · go_wp2_with fail
      refine (growNil (n1 + n2) _ hl).mono ?_
      rintro e w3 ⟨v, rfl, hg, hb⟩
      rw [hw.out] at hg hb
      have HG := Aside.mk hg
      have HB := Aside.mk hb
      clear hg hb e0 e1 hs hw
      go_wp2_with fail
      go_loopw [6, 27] (fun v iv wx => ∃ (k : Nat) (l : List T) (vv : Value), k ≤ 2 ∧ iv = .int .i64 k ∧ vv = v ∧ Aside ((k = 0 ∧ l = []) ∨ (k = 1 ∧ l = xs) ∨ (k = 2 ∧ l = xs ++ ys)) ∧ Aside (Grow Rec.term 26 False w.heap.size wx.heap.size wx l vv) ∧ Aside (Below w.heap.size w wx)) (fun _ iv _ => 2 - (intOf iv).toNat)
      case atStart => exact ⟨0, [], _, by omega, rfl, rfl, ⟨Or.inl ⟨rfl, rfl⟩⟩, HG, HB⟩
      case round =>
        obtain ⟨k, l, vv, hk2, rfl, rfl, hc, hg, hb⟩ := hrel
        clear HG HB
        have e0 : wr.cell? ⟨g, 0, none⟩ = some (.slice A1 n1 c1) := (hb.out.cell (p := ⟨g, 0, none⟩) HGL.out).trans KK0.out
        have e1 : wr.cell? ⟨g, 1, none⟩ = some (.slice A2 n2 c2) := (hb.out.cell (p := ⟨g, 1, none⟩) HGL.out).trans KK1.out
        have HO := Aside.mk (fun c (h : vv.ownBlock = some c) => own_lt hg.out.2.choose_spec.choose_spec.1 h)
        rcases hc.out with ⟨rfl, rfl⟩ | ⟨rfl, rfl⟩ | ⟨rfl, rfl⟩
        · obtain ⟨v', w', hr, hg2, hb2⟩ := run_growS (P := Try.prog) (R := Rec.term) (E := 26) (base := w.heap.size) (top := wr.heap.size) t0 _ 56 24 24 Try.underlying24 HI.out HZ.out HZ1.out HZ2.out rfl (show 0 < 4 by decide) term_one (xs := []) (ys := xs) hg.out hb.out.size (Rec.term.sl.below HX.out (fun b h => h) hb.out) (fun c hc => ⟨Nat.lt_of_lt_of_le hc hb.out.size, fun e => by have h1 := (HO.out c e).1; have h2 : c < w.heap.size := hc; omega⟩) (by rw [← HN1.out]; simp; unfold maxLen; omega) (by rw [← HN1.out]; simp; omega)
          rw [List.nil_append] at hg2
          have HR := Aside.mk hr
          have HG2 := Aside.mk hg2
          have HB2 : Aside (Below w.heap.size w w') := ⟨hb.out.trans hb2⟩
          clear hr hg2 hb2 hc hg hb HO
          go_wp2_with (at_builtin; refine Go.Lib.wpList_append_run _ rfl _ _ _ _ rfl _ _ rfl rfl _ _ HR.out ?_)
          go_roundw
          case rel => exact ⟨1, xs, v', by omega, by go_num, rfl, ⟨Or.inr (Or.inl ⟨rfl, rfl⟩)⟩, HG2, HB2⟩
          case measure => first | (simp [intOf]; done) | (simp [intOf]; omega)
        · obtain ⟨v', w', hr, hg2, hb2⟩ := run_growS (P := Try.prog) (R := Rec.term) (E := 26) (base := w.heap.size) (top := wr.heap.size) t0 _ 56 24 24 Try.underlying24 HI.out HZ.out HZ1.out HZ2.out rfl (show 0 < 4 by decide) term_one (ys := ys) hg.out hb.out.size (Rec.term.sl.below HY.out (fun b h => h) hb.out) (fun c hc => ⟨Nat.lt_of_lt_of_le hc hb.out.size, fun e => by have h1 := (HO.out c e).1; have h2 : c < w.heap.size := hc; omega⟩) (by rw [← HN1.out, ← HN2.out]; unfold maxLen; omega) (by rw [← HN1.out, ← HN2.out]; omega)
          have HR := Aside.mk hr
          have HG2 := Aside.mk hg2
          have HB2 : Aside (Below w.heap.size w w') := ⟨hb.out.trans hb2⟩
          clear hr hg2 hb2 hc hg hb HO
          go_wp2_with (at_builtin; refine Go.Lib.wpList_append_run _ rfl _ _ _ _ rfl _ _ rfl rfl _ _ HR.out ?_)
          go_roundw
          case rel => exact ⟨2, _, v', by omega, by go_num, rfl, ⟨Or.inr (Or.inr ⟨rfl, rfl⟩)⟩, HG2, HB2⟩
          case measure => first | (simp [intOf]; done) | (simp [intOf]; omega)
        · go_wp2_with fail
          go_ret
          exact ⟨_, rfl, hg.out.old, hb.out⟩
end Go.Proofs.Ytdldgchkinflmaa.Fn
