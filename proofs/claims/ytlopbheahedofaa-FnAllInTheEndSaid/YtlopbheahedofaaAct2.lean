/- Walk of DrawLinkRun: a window and a row of acts are drawn. Conditions: those of each theorem. -/
import Derived.Test.YtlopbheahedofaaAct1
import Derived.Test.YtlopbheahedofaaBytes
set_option linter.unusedVariables false
namespace Go.Proofs.Ytlopbheahedofaa.Fn
open Go Go.RowKit Go.Proofs.Ytlopbheahedofaa.Lib Go.Proofs.Ytlopbheahedofaa.Plan

/-- A code that is handed in. -/
def CodeIn (w : World) (A : Option Addr) (n : Nat) : Prop := ∀ j, j < n → ∃ b o x, A = some ⟨b, o, none⟩ ∧ b < w.heap.size ∧ w.cell? ⟨b, o + j, none⟩ = some (.int .u8 x) ∧ 0 ≤ x ∧ x ≤ 255
theorem CodeIn.under {w : World} {A : Option Addr} {n : Nat} (h : CodeIn w A n) (hn : 0 < n) : ∀ b o, A = some ⟨b, o, none⟩ → b < w.heap.size := by
  intro b o e
  obtain ⟨b2, o2, x, e2, h2, -⟩ := h 0 hn
  rw [e] at e2
  injection e2 with e2
  injection e2 with e2
  omega
set_option maxRecDepth 100000 in
theorem drawCur (A : Option Addr) (n c : Nat) (w : World) (h : CodeIn w A n) (hn : n ≤ 1048576) :
    Calls Try.prog 16 #[.slice A n c] w fun e w' => e = .returned (.pointer (some ⟨w.heap.size, 0, none⟩)) ∧ Below w.heap.size w w' ∧ CurOK w' w.heap.size A n c 0 := by
  have HC := Aside.mk h
  have e1 : IntKind.i64.wrap (17 + (n : Int)) = 17 + n := by rw [IntKind.wrap_i64]; omega
  clear h
  go_enter Try.func16, Try.ntmps16
  go_wp2_with fail
  go_ret
  refine ⟨rfl, by go_grown, 0, 17 + n, Blk.new w 72 [.slice A n c, .int .i64 0, .int .i64 (17 + n)], by omega, by omega, by omega, by omega, fun j hj => ?_⟩
  obtain ⟨b, o, x, e, hb, hc, x0, x1⟩ := HC.out j hj
  exact ⟨b, o, x, e, by omega, by simp; omega, ((Below.refl w.heap.size w).alloc (Nat.le_refl _) _).cell (p := ⟨b, o + j, none⟩) hb |>.trans hc, x0, x1⟩
def sliceLen : Value → Nat
  | .slice _ n _ => n
  | _ => 0
theorem _root_.Go.Proofs.Ytlopbheahedofaa.Lib.Below.of_but {w a b : World} {g : Nat} (h : But (AtG g) a b) (hg : g = w.heap.size) (hw : w.heap.size ≤ a.heap.size) : Below w.heap.size a b :=
  ⟨h.os, h.tape, h.output, h.size, fun k hk => h.block k (Nat.lt_of_lt_of_le hk hw) (fun e => by have e : k = g := e; omega)⟩
def windows : List Value := [.int .i64 1, .int .i64 2, .int .i64 4, .int .i64 16, .int .i64 17, .int .i64 0]
theorem windows_at (k : Nat) (hk : k < windows.length) : ∃ z : Int, windows[k] = .int .i64 z ∧ 0 ≤ z ∧ z ≤ 17 := by
  have hk2 : k < 6 := hk
  match k, hk2 with
  | 0, _ | 1, _ | 2, _ | 3, _ | 4, _ | 5, _ => exact ⟨_, rfl, by decide, by decide⟩
theorem ActsAt.cellsAt {w : World} {base b n cap : Nat} {acts : List ALinkAct} (h : ActsAt w base (.slice (some ⟨b, 0, none⟩) n cap) acts) (j : Nat) (hj : j < acts.length) :
    w.cell? ⟨b, j * 3, none⟩ = some (.int .i64 acts[j].1) ∧ w.cell? ⟨b, j * 3 + 1, none⟩ = some (.int .i64 acts[j].2.1) ∧ w.cell? ⟨b, j * 3 + 2, none⟩ = some (.string acts[j].2.2) := by
  have hc := h.own.cells (g := b) rfl
  have c0 := hc (j * 3 + 0) (.int .i64 acts[j].1) (cla_at acts j 0 hj (by omega))
  have c1 := hc (j * 3 + 1) (.int .i64 acts[j].2.1) (cla_at acts j 1 hj (by omega))
  have c2 := hc (j * 3 + 2) (.string acts[j].2.2) (cla_at acts j 2 hj (by omega))
  rw [add_plain] at c0 c1 c2
  exact ⟨c0, c1, c2⟩
theorem ActsAt.len {w : World} {base n cap : Nat} {A : Option Addr} {acts : List ALinkAct} (h : ActsAt w base (.slice A n cap) acts) : n = acts.length := by
  rcases h.own.2 with ⟨he, hz⟩ | ⟨g, cap', cur, he, -⟩
  · injection he with e1 e2 e3; omega
  · injection he with e1 e2 e3
theorem ActsAt.frozen {w : World} {base b n cap : Nat} {acts : List ALinkAct} (h : ActsAt w base (.slice (some ⟨b, 0, none⟩) n cap) acts) (j : Nat) : w.frozen? ⟨b, j, none⟩ = false := by
  obtain rfl := h.len
  exact h.own.frozenAt j
theorem res_two {fn : Func} {t0 t1 : Tmp} (h : fn.results = #[.tmp t0, .tmp t1]) (tmps : Array Value) (P : Program) (w : World) :
    (results fn tmps).run P w = .ok (.tuple #[tmps.getD t0 undef, tmps.getD t1 undef]) w := by
  simp [results, h]
theorem ActsAt.put {w : World} {base b n cap : Nat} {acts : List ALinkAct} (h : ActsAt w base (.slice (some ⟨b, 0, none⟩) n cap) acts) (j : Nat) (hj : j < acts.length) (x : ALinkAct) (hx : x.2.2.size ≤ 1001) :
    ActsAt (((w.setCell ⟨b, j * 3, none⟩ (.int .i64 x.1)).setCell ⟨b, j * 3 + 1, none⟩ (.int .i64 x.2.1)).setCell ⟨b, j * 3 + 2, none⟩ (.string x.2.2)) base (.slice (some ⟨b, 0, none⟩) n cap) (acts.set j x) := by
  obtain rfl := h.len
  refine ⟨?_, fun y hy => ?_⟩
  · have h1 := (((h.own.stored (j * 3) (.int .i64 x.1)).1.stored (j * 3 + 1) (.int .i64 x.2.1)).1.stored (j * 3 + 2) (.string x.2.2)).1
    rw [cla_set acts j hj x] at h1
    rw [List.length_set]
    exact h1
  · rcases List.mem_or_eq_of_mem_set hy with hy | rfl
    · exact h.txt y hy
    · exact hx
theorem ActsAt.put0 {w : World} {base b n cap : Nat} {x : ALinkAct} {l : List ALinkAct} (h : ActsAt w base (.slice (some ⟨b, 0, none⟩) n cap) (x :: l)) (k : Int) : ActsAt (w.setCell ⟨b, 0, none⟩ (.int .i64 k)) base (.slice (some ⟨b, 0, none⟩) n cap) ((k, x.2) :: l) := by
  obtain rfl := h.len
  refine ⟨(h.own.stored 0 (.int .i64 k)).1, fun y hy => ?_⟩
  rcases List.mem_cons.1 hy with rfl | hy
  · exact h.txt x (List.mem_cons_self ..)
  · exact h.txt y (List.mem_cons_of_mem _ hy)
theorem ActsAt.put1 {w : World} {base b n cap : Nat} {x : ALinkAct} {l : List ALinkAct} (h : ActsAt w base (.slice (some ⟨b, 0, none⟩) n cap) (x :: l)) (k : Int) : ActsAt (w.setCell ⟨b, 1, none⟩ (.int .i64 k)) base (.slice (some ⟨b, 0, none⟩) n cap) ((x.1, k, x.2.2) :: l) := by
  obtain rfl := h.len
  refine ⟨(h.own.stored 1 (.int .i64 k)).1, fun y hy => ?_⟩
  rcases List.mem_cons.1 hy with rfl | hy
  · exact h.txt x (List.mem_cons_self ..)
  · exact h.txt y (List.mem_cons_of_mem _ hy)
theorem ActsAt.lower {w : World} {base base2 : Nat} {v : Value} {acts : List ALinkAct} (h : ActsAt w base v acts) (hb : base2 ≤ base) : ActsAt w base2 v acts := by
  refine ⟨⟨h.own.1, ?_⟩, h.txt⟩
  rcases h.own.2 with h0 | ⟨g, cap, cur, e, h1, h2⟩
  · exact Or.inl h0
  · exact Or.inr ⟨g, cap, cur, e, by omega, h2⟩
theorem ActsAt.head {w : World} {base : Nat} {v : Value} {acts : List ALinkAct} (h : ActsAt w base v acts) (hn : 0 < acts.length) : ∃ b cap, v = .slice (some ⟨b, 0, none⟩) acts.length cap ∧ base ≤ b ∧ b < w.heap.size ∧ (∀ j, w.frozen? ⟨b, j, none⟩ = false) := by
  obtain ⟨A, cap, rfl, -, -⟩ := own_shape h.own
  obtain ⟨b, rfl, hb, hl, -, hf⟩ := own_addr h.own hn
  exact ⟨b, cap, rfl, hb, hl, hf⟩
/-- What DrawLinkRun is to do. -/
def DrewLink (w : World) (e : Ending) (w' : World) : Prop := ∃ (win : Int) (v : Value) (acts : List ALinkAct), e = .returned (.tuple #[.int .i64 win, v]) ∧ 0 ≤ win ∧ win ≤ 17 ∧ ActsAt w' w.heap.size v acts ∧ acts.length ≤ 500 ∧ Below w.heap.size w w'
theorem lowBelow {w a b : World} {base : Nat} (h : Below w.heap.size w a) (hb : Below base a b) (hl : w.heap.size ≤ base) : Below w.heap.size w b := h.trans (hb.mono hl)
theorem curBelow {w a b : World} (h : Below w.heap.size w a) (hb : But (AtG w.heap.size) a b) : Below w.heap.size w b := But.out h hb (fun k hk => by have hk : k = w.heap.size := hk; omega)
set_option maxRecDepth 100000 in
set_option maxHeartbeats 16000000 in
theorem drawLink (A : Option Addr) (n c : Nat) (w : World) (h : CodeIn w A n) (hn : n ≤ 1048576) :
    Calls Try.prog 7 #[.slice A n c] w (DrewLink w) := by
  have HA : Aside (0 < n → ∀ b o, A = some ⟨b, o, none⟩ → b < w.heap.size) := ⟨h.under⟩
  have HC := Aside.mk h
  clear h
  go_enter Try.func7, Try.ntmps7
  go_wp2_with fail
  refine (drawCur A n c w HC.out hn).mono ?_
  rintro e w1 ⟨rfl, hb, hc⟩
  have HB1 := Aside.mk hb
  have HC1 := Aside.mk hc
  have hg1 : w.heap.size < w1.heap.size := by obtain ⟨k, s, h1, -⟩ := hc; exact h1.lt
  obtain ⟨g, hgd⟩ : ∃ g, g = w.heap.size := ⟨_, rfl⟩
  rw [← hgd] at HC1 hg1
  have HGD := Aside.mk hgd
  clear hb hc
  go_wp2_with fail
  try rw [← HGD.out]
  refine (curSize g A n c 0 60 w1 HC1.out hn (by omega) (by omega) (by omega)).mono ?_
  rintro e w2 ⟨s, rfl, s0, s1, hb, hc⟩
  obtain ⟨s, rfl⟩ := Int.eq_ofNat_of_zero_le s0
  have HB2 : Aside (Below w.heap.size w w2) := ⟨by rw [hgd] at hb; exact curBelow HB1.out hb⟩
  have HC2 := Aside.mk hc
  have hg2 : g < w2.heap.size := Nat.lt_of_lt_of_le hg1 hb.size
  have HA2 : Aside (0 < n → ∀ b o, A = some ⟨b, o, none⟩ → b < w2.heap.size) := ⟨fun h b o e => Nat.lt_of_lt_of_le (HA.out h b o e) HB2.out.size⟩
  have hw2 : w.heap.size ≤ w2.heap.size := HB2.out.size
  clear hb hc HB1 HC1 hg1 hgd
  have hs4 : 4 + s ≤ 64 := by omega
  go_wp2_with fail
  have e4 : (4 : Int) + (s : Int) = ((4 + s : Nat) : Int) := by omega
  rw [e4]
  refine (drawActs g A n c (0 + 2) (4 + s) w2 HC2.out HA2.out hn (by omega) (by omega)).mono ?_
  rintro e w3 ⟨v, acts, rfl, hat, hal, hb, hc⟩
  obtain ⟨L, hL⟩ : ∃ L, L = acts.length := ⟨_, rfl⟩
  have hL1 : 4 ≤ L := by omega
  have hL2 : L ≤ 64 := by omega
  have HT3 := Aside.mk hat
  have HB3 := Aside.mk hb
  have HC3 := Aside.mk (hc.mono (show _ ≤ (1000 : Int) by omega))
  have HL3 := Aside.mk hL.symm
  clear hat hal hb hc HC2 e4 hL hs4
  go_wp2_with fail
  refine (curPick g A n c 1000 3 2 w3 HC3.out hn (by omega) (by omega) (by omega) (by omega)).mono ?_
  rintro e w4 ⟨x, rfl, x0, x1, hb, hc⟩
  obtain ⟨x, rfl⟩ := Int.eq_ofNat_of_zero_le x0
  have HT4 := Aside.mk (HT3.out.but hb hg2)
  have HB4 := Aside.mk (HB3.out.trans hb)
  have HC4 := Aside.mk (hc.mono (show _ ≤ (1002 : Int) by omega))
  clear hb hc HT3 HB3 HC3
  go_wp2_with fail
  go_loopw [6] (fun iv wr => ∃ (k q : Nat) (acts : List ALinkAct), k + q = x ∧ iv = .int .i64 k ∧ Aside (acts.length = L) ∧ Aside (ActsAt wr w2.heap.size v acts) ∧ Aside (But (AtG g) w2 wr) ∧ Aside (CurOK wr g A n c (1002 + 10 * (q : Int)))) (fun iv _ => (intOf iv).toNat)
  case atStart => exact ⟨x, 0, acts, by omega, rfl, HL3, HT4, HB4, ⟨HC4.out.mono (by omega)⟩⟩
  case round =>
    obtain ⟨k, q, as1, hkq, rfl, hlen, hat, hbt, hcu⟩ := hrel
    clear HT4 HB4 HC4 HL3
    have hq2 : (q : Int) ≤ 2 := by omega
    by_cases hlt : 0 < k
    · have hlt2 : 0 < (k : Int) := by omega
      obtain ⟨b, cap, rfl, hbb, hbl, hfz⟩ := hat.out.head (by rw [hlen.out]; omega)
      have HAT := hat
      rw [hlen.out] at HAT
      clear hat hfz hbl
      rw [hlen.out]
      go_wp2_with fail
      refine (curPick g A n c (1002 + 10 * (q : Int)) L ((L : Int) - 1) wr hcu.out hn (by omega) (by omega) (by omega) (by omega)).mono ?_
      rintro e w5 ⟨p, rfl, p0, p1, hb, hc⟩
      obtain ⟨p, rfl⟩ := Int.eq_ofNat_of_zero_le p0
      have HB5 := Aside.mk (hbt.out.trans hb)
      have HT5 := Aside.mk (HAT.out.but hb hg2)
      have HC5 := Aside.mk hc
      clear hb hc hbt HAT hcu p0
      go_wp2_with fail
      refine (curPick g A n c (1002 + 10 * (q : Int) + 2) 4 3 _ HC5.out hn (by omega) (by omega) (by omega) (by omega)).mono ?_
      rintro e w6 ⟨pa, rfl, paa, pab, hb, hc⟩
      have HB6 := Aside.mk (HB5.out.trans hb)
      have HC6 := Aside.mk hc
      have HT6 := Aside.mk (HT5.out.but hb hg2)
      clear hb hc HB5 HC5 HT5
      go_wp2_with fail
      refine (curPick g A n c (1002 + 10 * (q : Int) + 2 + 2) 30 29 _ HC6.out hn (by omega) (by omega) (by omega) (by omega)).mono ?_
      rintro e w7 ⟨pb, rfl, pba, pbb, hb, hc⟩
      have HB7 := Aside.mk (HB6.out.trans hb)
      have HC7 := Aside.mk hc
      have HT7 := Aside.mk (HT6.out.but hb hg2)
      clear hb hc HB6 HC6 HT6
      go_wp2_with fail
      refine (curPick g A n c (1002 + 10 * (q : Int) + 2 + 2 + 2) 256 255 _ HC7.out hn (by omega) (by omega) (by omega) (by omega)).mono ?_
      rintro e w8 ⟨pc, rfl, pca, pcb, hb, hc⟩
      have HB8 := Aside.mk (HB7.out.trans hb)
      have HC8 := Aside.mk hc
      have HT8 := Aside.mk (HT7.out.but hb hg2)
      clear hb hc HB7 HC7 HT7
      go_wp2_with fail
      refine (l01Byte pc w8 pca pcb).mono ?_
      rintro e w9 ⟨rfl, hb⟩
      have HB9 := Aside.mk (HB8.out.trans (But.below hb))
      have HC9 := Aside.mk (HC8.out.below hb)
      have HT9 := Aside.mk (HT8.out.below hb)
      clear hb HB8 HC8 HT8
      have hpl : p < as1.length := by rw [hlen.out]; omega
      have hpL : p < L := by omega
      have hpi : (p : Int) < L := by omega
      obtain ⟨c0, c1, c2⟩ := HT9.out.cellsAt p hpl
      have f0 := HT9.out.frozen (p * 3)
      have f1 := HT9.out.frozen (p * 3 + 1)
      have f2 := HT9.out.frozen (p * 3 + 2)
      have hsz : (bes 1 pc).size ≤ 1001 := by rw [bes_size]; omega
      have HTN := Aside.mk (HT9.out.put p hpl (6, pa + 100 * pb, bes 1 pc) hsz)
      have HBL : Aside (Below w2.heap.size w9 (((w9.setCell ⟨b, p * 3, none⟩ (.int .i64 6)).setCell ⟨b, p * 3 + 1, none⟩ (.int .i64 (pa + 100 * pb))).setCell ⟨b, p * 3 + 2, none⟩ (.string (bes 1 pc)))) := ⟨(((Below.refl _ _).setCell hbb _).setCell hbb _).setCell hbb _⟩
      clear hsz HT9
      go_wp2_with fail
      go_roundw
      case rel => exact ⟨k - 1, q + 1, as1.set p (6, pa + 100 * pb, bes 1 pc), by omega, by go_num, ⟨by rw [List.length_set]; exact hlen.out⟩, HTN, ⟨HB9.out.low HBL.out⟩, ⟨(HC9.out.low HBL.out hg2 HA2.out).mono (by omega)⟩⟩
      case measure => first | (simp [intOf]; done) | (simp [intOf]; omega)
    obtain rfl : k = 0 := by omega
    obtain ⟨b, cap, rfl, hbb, hbl, hfz⟩ := hat.out.head (by rw [hlen.out]; omega)
    have HAT := hat
    rw [hlen.out] at HAT
    rw [hlen.out]
    obtain ⟨i0, hi0, iz0, iz1, iz2⟩ := info_parts infoAct
    have HI := Aside.mk hi0
    have HI0 := Aside.mk iz0
    have HI1 := Aside.mk iz1
    have HI2 := Aside.mk iz2
    clear hat hfz hbl hi0 iz0 iz1 iz2
    go_wp2_with fail
    refine (curPick g A n c 1100 30 29 wr (hcu.out.mono (by omega)) hn (by omega) (by omega) (by omega) (by omega)).mono ?_
    rintro e w5 ⟨r, rfl, r0, r1, hb, hc⟩
    have HB5 := Aside.mk (hbt.out.trans hb)
    have HT5 := Aside.mk (HAT.out.but hb hg2)
    have HC5 := Aside.mk (hc.mono (show _ ≤ (1200 : Int) by omega))
    clear hb hc hbt HAT hcu
    obtain ⟨x0', l0, hxl⟩ : ∃ x l, as1 = x :: l := by
      have := hlen.out
      cases hh : as1 with
      | nil => rw [hh] at this; simp at this; omega
      | cons x l => exact ⟨x, l, rfl⟩
    have HXL := Aside.mk hxl
    clear hxl
    have hL0 : 0 < L := by omega
    have hLi : (0 : Int) < L := by omega
    by_cases cr0 : r = 0
    · subst cr0
      rw [HXL.out] at HT5
      obtain ⟨c0, c1, c2⟩ := HT5.out.cellsAt 0 (by simp)
      have f1 := HT5.out.frozen 1
      rw [Nat.zero_mul] at c0 c1 c2
      simp only [List.getElem_cons_zero, Nat.zero_add] at c0 c1 c2
      have HT6 := Aside.mk (HT5.out.put1 (-1))
      have HBL : Below w2.heap.size w5 (w5.setCell ⟨b, 1, none⟩ (.int .i64 (-1))) := (Below.refl _ _).setCell hbb _
      have HB6 := Aside.mk (HB5.out.low HBL)
      have HC6 := Aside.mk (HC5.out.low HBL hg2 HA2.out)
      clear HT5 HB5 HC5 HBL
      go_wp2_with fail
      clear c0 c1 c2 f1
      have hszz : (w5.setCell ⟨b, 1, none⟩ (.int .i64 (-1))).heap.size = w5.heap.size := by simp
      generalize w5.setCell ⟨b, 1, none⟩ (.int .i64 (-1)) = w6 at HT6 HB6 HC6 hszz ⊢
      have htL : (((x0'.1, -1, x0'.2.2) :: l0)).length ≤ 500 := by have h1 := hlen.out; rw [HXL.out] at h1; simp at h1 ⊢; omega
      have HTL := Aside.mk htL
      clear htL
      have hgW : g < w6.heap.size := Nat.lt_of_lt_of_le hg2 HB6.out.size
      have hlw : But (AtG g) w6 (w6.alloc (.cells windows.toArray 3)) := But.below (by go_grown)
      have HT20 := Aside.mk (HT6.out.but hlw hg2)
      have HB20 := Aside.mk (HB6.out.trans hlw)
      have HC20 := Aside.mk ((HC6.out.below ((Below.refl _ _).alloc (Nat.le_refl _) (.cells windows.toArray 3))).mono (show _ ≤ (1200 : Int) by omega))
      have HLIT : Aside (Blk (w6.alloc (.cells windows.toArray 3)) w5.heap.size 3 windows) := ⟨by rw [← hszz]; exact Blk.new w6 3 windows⟩
      have hlv : w5.heap.size ≠ g := by omega
      clear hlw HT6 HB6 HC6
      go_wp2_with fail
      refine (curPick g A n c (1200) 5 4 _ HC20.out hn (by omega) (by omega) (by omega) (by omega)).mono ?_
      rintro e w21 ⟨qa, rfl, qaa, qab, hb, hc⟩
      have HB21 := Aside.mk (HB20.out.trans hb)
      have HC21 := Aside.mk hc
      have HT21 := Aside.mk (HT20.out.but hb hg2)
      have HLN := Aside.mk (HLIT.out.but hb hlv)
      clear hb hc HLIT HB20 HC20 HT20
      have HLIT := HLN
      clear HLN
      go_wp2_with fail
      refine (curPick g A n c (1200 + 2) 2 1 _ HC21.out hn (by omega) (by omega) (by omega) (by omega)).mono ?_
      rintro e w22 ⟨qb, rfl, qba, qbb, hb, hc⟩
      have HB22 := Aside.mk (HB21.out.trans hb)
      have HC22 := Aside.mk hc
      have HT22 := Aside.mk (HT21.out.but hb hg2)
      have HLN := Aside.mk (HLIT.out.but hb hlv)
      clear hb hc HLIT HB21 HC21 HT21
      have HLIT := HLN
      clear HLN
      go_wp2_with fail
      refine (curPick g A n c (1200 + 2 + 2) 2 1 _ HC22.out hn (by omega) (by omega) (by omega) (by omega)).mono ?_
      rintro e w23 ⟨qc, rfl, qca, qcb, hb, hc⟩
      have HB23 := Aside.mk (HB22.out.trans hb)
      have HC23 := Aside.mk hc
      have HT23 := Aside.mk (HT22.out.but hb hg2)
      have HLN := Aside.mk (HLIT.out.but hb hlv)
      clear hb hc HLIT HB22 HC22 HT22
      have HLIT := HLN
      clear HLN
      have m0 : 0 ≤ qb * qc := Int.mul_nonneg qba qca
      have m1 : qb * qc ≤ 1 * 1 := Int.mul_le_mul qbb qcb qca (by omega)
      have em : IntKind.i64.wrap (qb * qc) = qb * qc := by rw [IntKind.wrap_i64]; omega
      have et : (qb * qc).tmod 2 = qb * qc := by rw [Int.tmod_eq_emod_of_nonneg m0]; omega
      have et2 : qb * qc % 2 = qb * qc := by omega
      obtain ⟨y, hy⟩ := Int.eq_ofNat_of_zero_le (show 0 ≤ qa + qb * qc by omega)
      have hy6 : y < windows.length := by change y < 6; omega
      have hy7 : y < 6 := hy6
      have hy8 : (y : Int) < 6 := by omega
      obtain ⟨z, hz, hz0, hz1⟩ := windows_at y hy6
      have hcell : w23.cell? ⟨w5.heap.size, y, none⟩ = some (.int .i64 z) := by rw [← hz]; exact (HLIT.out.cell y).trans (List.getElem?_eq_getElem hy6)
      have HZ0 := Aside.mk hz0
      have HZ1 := Aside.mk hz1
      clear HLIT hz hz0 hz1 hy6 m0 m1
      go_wp2_with fail
      refine bodyPost_ret (res_two rfl _ _ _) rfl ?_
      exact ⟨z, _, ((x0'.1, -1, x0'.2.2) :: l0), rfl, HZ0.out, HZ1.out, HT23.out.lower hw2, HTL.out, HB2.out.trans (Lib.Below.of_but HB23.out HGD.out hw2)⟩
    by_cases cr1 : r = 1
    · subst cr1
      go_wp2_with fail
      refine (curPick g A n c 1200 9 8 w5 HC5.out hn (by omega) (by omega) (by omega) (by omega)).mono ?_
      rintro e w6 ⟨p, rfl, p0, p1, hb, hc⟩
      have HT6 := Aside.mk (HT5.out.but hb hg2)
      have HB6 := Aside.mk (HB5.out.trans hb)
      have HC6 := Aside.mk hc
      clear hb hc HT5 HB5 HC5
      rw [HXL.out] at HT6
      obtain ⟨c0, c1, c2⟩ := HT6.out.cellsAt 0 (by simp)
      have f0 := HT6.out.frozen 0
      rw [Nat.zero_mul] at c0 c1 c2
      simp only [List.getElem_cons_zero, Nat.zero_add] at c0 c1 c2
      have HT7 := Aside.mk (HT6.out.put0 p)
      have HBL : Below w2.heap.size w6 (w6.setCell ⟨b, 0, none⟩ (.int .i64 p)) := (Below.refl _ _).setCell hbb _
      have HB7 := Aside.mk (HB6.out.low HBL)
      have HC7 := Aside.mk (HC6.out.low HBL hg2 HA2.out)
      clear HT6 HB6 HC6 HBL
      go_wp2_with fail
      clear c0 c1 c2 f0
      have hszz : (w6.setCell ⟨b, 0, none⟩ (.int .i64 p)).heap.size = w6.heap.size := by simp
      generalize w6.setCell ⟨b, 0, none⟩ (.int .i64 p) = w7 at HT7 HB7 HC7 hszz ⊢
      have htL : (((p, x0'.2) :: l0)).length ≤ 500 := by have h1 := hlen.out; rw [HXL.out] at h1; simp at h1 ⊢; omega
      have HTL := Aside.mk htL
      clear htL
      have hgW : g < w7.heap.size := Nat.lt_of_lt_of_le hg2 HB7.out.size
      have hlw : But (AtG g) w7 (w7.alloc (.cells windows.toArray 3)) := But.below (by go_grown)
      have HT20 := Aside.mk (HT7.out.but hlw hg2)
      have HB20 := Aside.mk (HB7.out.trans hlw)
      have HC20 := Aside.mk ((HC7.out.below ((Below.refl _ _).alloc (Nat.le_refl _) (.cells windows.toArray 3))).mono (show _ ≤ (1300 : Int) by omega))
      have HLIT : Aside (Blk (w7.alloc (.cells windows.toArray 3)) w6.heap.size 3 windows) := ⟨by rw [← hszz]; exact Blk.new w7 3 windows⟩
      have hlv : w6.heap.size ≠ g := by omega
      clear hlw HT7 HB7 HC7
      go_wp2_with fail
      refine (curPick g A n c (1300) 5 4 _ HC20.out hn (by omega) (by omega) (by omega) (by omega)).mono ?_
      rintro e w21 ⟨qa, rfl, qaa, qab, hb, hc⟩
      have HB21 := Aside.mk (HB20.out.trans hb)
      have HC21 := Aside.mk hc
      have HT21 := Aside.mk (HT20.out.but hb hg2)
      have HLN := Aside.mk (HLIT.out.but hb hlv)
      clear hb hc HLIT HB20 HC20 HT20
      have HLIT := HLN
      clear HLN
      go_wp2_with fail
      refine (curPick g A n c (1300 + 2) 2 1 _ HC21.out hn (by omega) (by omega) (by omega) (by omega)).mono ?_
      rintro e w22 ⟨qb, rfl, qba, qbb, hb, hc⟩
      have HB22 := Aside.mk (HB21.out.trans hb)
      have HC22 := Aside.mk hc
      have HT22 := Aside.mk (HT21.out.but hb hg2)
      have HLN := Aside.mk (HLIT.out.but hb hlv)
      clear hb hc HLIT HB21 HC21 HT21
      have HLIT := HLN
      clear HLN
      go_wp2_with fail
      refine (curPick g A n c (1300 + 2 + 2) 2 1 _ HC22.out hn (by omega) (by omega) (by omega) (by omega)).mono ?_
      rintro e w23 ⟨qc, rfl, qca, qcb, hb, hc⟩
      have HB23 := Aside.mk (HB22.out.trans hb)
      have HC23 := Aside.mk hc
      have HT23 := Aside.mk (HT22.out.but hb hg2)
      have HLN := Aside.mk (HLIT.out.but hb hlv)
      clear hb hc HLIT HB22 HC22 HT22
      have HLIT := HLN
      clear HLN
      have m0 : 0 ≤ qb * qc := Int.mul_nonneg qba qca
      have m1 : qb * qc ≤ 1 * 1 := Int.mul_le_mul qbb qcb qca (by omega)
      have em : IntKind.i64.wrap (qb * qc) = qb * qc := by rw [IntKind.wrap_i64]; omega
      have et : (qb * qc).tmod 2 = qb * qc := by rw [Int.tmod_eq_emod_of_nonneg m0]; omega
      have et2 : qb * qc % 2 = qb * qc := by omega
      obtain ⟨y, hy⟩ := Int.eq_ofNat_of_zero_le (show 0 ≤ qa + qb * qc by omega)
      have hy6 : y < windows.length := by change y < 6; omega
      have hy7 : y < 6 := hy6
      have hy8 : (y : Int) < 6 := by omega
      obtain ⟨z, hz, hz0, hz1⟩ := windows_at y hy6
      have hcell : w23.cell? ⟨w6.heap.size, y, none⟩ = some (.int .i64 z) := by rw [← hz]; exact (HLIT.out.cell y).trans (List.getElem?_eq_getElem hy6)
      have HZ0 := Aside.mk hz0
      have HZ1 := Aside.mk hz1
      clear HLIT hz hz0 hz1 hy6 m0 m1
      go_wp2_with fail
      refine bodyPost_ret (res_two rfl _ _ _) rfl ?_
      exact ⟨z, _, ((p, x0'.2) :: l0), rfl, HZ0.out, HZ1.out, HT23.out.lower hw2, HTL.out, HB2.out.trans (Lib.Below.of_but HB23.out HGD.out hw2)⟩
    by_cases cr2 : r = 2
    · subst cr2
      go_wp2_with fail
      have HB6 := HB5
      have HC6 : Aside (CurOK w5 g A n c (1200 + 2 * (0 : Nat))) := ⟨HC5.out.mono (by omega)⟩
      have HL6 : as1.length ≤ 401 := by rw [hlen.out]; omega
      have HL7 := Aside.mk HL6
      clear HB5 HC5 HL6
      go_loopw [5] (fun v wr => ∃ (q : Nat) (acts : List ALinkAct), Aside (acts.length = L + q) ∧ acts.length ≤ 401 ∧ Aside (ActsAt wr w2.heap.size v acts) ∧ Aside (But (AtG g) w2 wr) ∧ Aside (CurOK wr g A n c (1200 + 2 * (q : Int)))) (fun v _ => 500 - sliceLen v)
      case atStart => exact ⟨0, as1, ⟨by rw [hlen.out]; rfl⟩, HL7.out, HT5, HB6, ⟨HC6.out.mono (by omega)⟩⟩
      case round =>
        rename_i v2 wz
        obtain ⟨q2, as2, hl2, hl4, hat2, hbt2, hcu2⟩ := hrel
        clear HT5 HB6 HC6 HL7
        obtain ⟨A5, cap5, rfl, hcap5, -⟩ := own_shape hat2.out.own
        obtain ⟨N, hN⟩ : ∃ N, N = as2.length := ⟨_, rfl⟩
        have HN := Aside.mk hN
        have hNq : Aside (N = L + q2) := ⟨by rw [hN, hl2.out]⟩
        have hN4 : N ≤ 401 := by omega
        have hq9 : (q2 : Int) ≤ 401 := by have := hl2.out; omega
        rw [← hN] at hat2 hcap5 ⊢
        clear hN hl4
        go_wp2_with fail
        refine (curPick g A n c (1200 + 2 * (q2 : Int)) 2 1 _ hcu2.out hn (by omega) (by omega) (by omega) (by omega)).mono ?_
        rintro e w6 ⟨p, rfl, p0, p1, hb, hc⟩
        have HT6 := Aside.mk (hat2.out.but hb hg2)
        have HB6 := Aside.mk (hbt2.out.trans hb)
        have HC6 := Aside.mk hc
        clear hb hc hat2 hbt2 hcu2
        by_cases ct : (N : Int) < 400 + p
        rotate_left
        · go_wp2_with fail
          have htL : (as2).length ≤ 500 := by rw [← HN.out]; omega
          have HTL := Aside.mk htL
          clear htL
          have hgW : g < w6.heap.size := Nat.lt_of_lt_of_le hg2 HB6.out.size
          have hlw : But (AtG g) w6 (w6.alloc (.cells windows.toArray 3)) := But.below (by go_grown)
          have HT20 := Aside.mk (HT6.out.but hlw hg2)
          have HB20 := Aside.mk (HB6.out.trans hlw)
          have HC20 := Aside.mk ((HC6.out.below ((Below.refl _ _).alloc (Nat.le_refl _) (.cells windows.toArray 3))).mono (show _ ≤ (3000 : Int) by omega))
          have HLIT : Aside (Blk (w6.alloc (.cells windows.toArray 3)) w6.heap.size 3 windows) := ⟨by exact Blk.new w6 3 windows⟩
          have hlv : w6.heap.size ≠ g := by omega
          clear hlw HT6 HB6 HC6
          go_wp2_with fail
          refine (curPick g A n c (3000) 5 4 _ HC20.out hn (by omega) (by omega) (by omega) (by omega)).mono ?_
          rintro e w21 ⟨qa, rfl, qaa, qab, hb, hc⟩
          have HB21 := Aside.mk (HB20.out.trans hb)
          have HC21 := Aside.mk hc
          have HT21 := Aside.mk (HT20.out.but hb hg2)
          have HLN := Aside.mk (HLIT.out.but hb hlv)
          clear hb hc HLIT HB20 HC20 HT20
          have HLIT := HLN
          clear HLN
          go_wp2_with fail
          refine (curPick g A n c (3000 + 2) 2 1 _ HC21.out hn (by omega) (by omega) (by omega) (by omega)).mono ?_
          rintro e w22 ⟨qb, rfl, qba, qbb, hb, hc⟩
          have HB22 := Aside.mk (HB21.out.trans hb)
          have HC22 := Aside.mk hc
          have HT22 := Aside.mk (HT21.out.but hb hg2)
          have HLN := Aside.mk (HLIT.out.but hb hlv)
          clear hb hc HLIT HB21 HC21 HT21
          have HLIT := HLN
          clear HLN
          go_wp2_with fail
          refine (curPick g A n c (3000 + 2 + 2) 2 1 _ HC22.out hn (by omega) (by omega) (by omega) (by omega)).mono ?_
          rintro e w23 ⟨qc, rfl, qca, qcb, hb, hc⟩
          have HB23 := Aside.mk (HB22.out.trans hb)
          have HC23 := Aside.mk hc
          have HT23 := Aside.mk (HT22.out.but hb hg2)
          have HLN := Aside.mk (HLIT.out.but hb hlv)
          clear hb hc HLIT HB22 HC22 HT22
          have HLIT := HLN
          clear HLN
          have m0 : 0 ≤ qb * qc := Int.mul_nonneg qba qca
          have m1 : qb * qc ≤ 1 * 1 := Int.mul_le_mul qbb qcb qca (by omega)
          have em : IntKind.i64.wrap (qb * qc) = qb * qc := by rw [IntKind.wrap_i64]; omega
          have et : (qb * qc).tmod 2 = qb * qc := by rw [Int.tmod_eq_emod_of_nonneg m0]; omega
          have et2 : qb * qc % 2 = qb * qc := by omega
          obtain ⟨y, hy⟩ := Int.eq_ofNat_of_zero_le (show 0 ≤ qa + qb * qc by omega)
          have hy6 : y < windows.length := by change y < 6; omega
          have hy7 : y < 6 := hy6
          have hy8 : (y : Int) < 6 := by omega
          obtain ⟨z, hz, hz0, hz1⟩ := windows_at y hy6
          have hcell : w23.cell? ⟨w6.heap.size, y, none⟩ = some (.int .i64 z) := by rw [← hz]; exact (HLIT.out.cell y).trans (List.getElem?_eq_getElem hy6)
          have HZ0 := Aside.mk hz0
          have HZ1 := Aside.mk hz1
          clear HLIT hz hz0 hz1 hy6 m0 m1
          go_wp2_with fail
          refine bodyPost_ret (res_two rfl _ _ _) rfl ?_
          exact ⟨z, _, as2, rfl, HZ0.out, HZ1.out, HT23.out.lower hw2, HTL.out, HB2.out.trans (Lib.Below.of_but HB23.out HGD.out hw2)⟩
        have hN5 : N + 1 ≤ 401 := by omega
        have hbs : w2.heap.size ≤ w6.heap.size := HB6.out.size
        obtain ⟨w18, A8, cap8, hrun, hown, hkeep, hb8, hnew, hs8, hc8⟩ := own_app (P := Try.prog) (t := 24) i0 _ Try.underlying24 HI.out HI0.out HI1.out HI2.out rfl (by decide) (show w6.ownsRow w2.heap.size 34 3 (.slice A5 N cap5) N (cla as2) from by have := HT6.out.own; rwa [← HN.out] at this) [.int .i64 2, .int .i64 (0), .string ⟨#[]⟩] rfl (fun u hu => by simp at hu; rcases hu with rfl | rfl | rfl <;> rfl) (by unfold maxLen; omega) (by omega) hbs
        have HRUN := Aside.mk hrun
        have HT18 := Aside.mk (ActsAt.snoc (a := (2, 0, ⟨#[]⟩)) hown HN.out HT6.out.txt (show ByteArray.size ⟨#[]⟩ ≤ 1001 by decide))
        have HB18 := Aside.mk (HB6.out.low hb8)
        have HC18 := Aside.mk (HC6.out.low hb8 hg2 HA2.out)
        clear hrun hown hkeep hb8 hnew hs8 HB6 HC6 HT6
        go_wp2_with (at_builtin; refine Go.Lib.wpList_append_run _ rfl _ _ _ _ rfl _ _ rfl rfl _ _ HRUN.out ?_)
        go_roundw
        case rel => exact ⟨q2 + 1, as2 ++ [(2, 0, ⟨#[]⟩)], ⟨by rw [List.length_append, hl2.out]; rfl⟩, by rw [List.length_append, ← HN.out]; exact hN5, HT18, HB18, ⟨HC18.out.mono (by omega)⟩⟩
        case measure => first | (simp [sliceLen]; done) | (simp [sliceLen]; omega)
    by_cases cr3 : r = 3
    · subst cr3
      go_wp2_with fail
      refine (curPick g A n c 1200 2 1 w5 HC5.out hn (by omega) (by omega) (by omega) (by omega)).mono ?_
      rintro e w6 ⟨p, rfl, p0, p1, hb, hc⟩
      obtain ⟨p, rfl⟩ := Int.eq_ofNat_of_zero_le p0
      have HT6 := Aside.mk (HT5.out.but hb hg2)
      have HB6 := Aside.mk (HB5.out.trans hb)
      have HC6 := Aside.mk hc
      have hp1 : p ≤ 1 := by omega
      clear hb hc HT5 HB5 HC5 p0
      obtain ⟨j0, hj0, jz0, jz1, jz2⟩ := info_parts infoU8
      obtain ⟨P, hP⟩ : ∃ P, P = 1000 + p := ⟨_, rfl⟩
      have eP : (1000 : Int) + (p : Int) = (P : Int) := by omega
      have hP1 : P ≤ 1001 := by omega
      clear hP
      have HT6' := HT6
      go_wp2_with (first
        | (refine wpList_make_full _ rfl _ _ 22 rfl w6.heap.size 5 j0 (.int .u8 0) 1 Try.underlying22 hj0 jz0 jz1 .i64 .i64 _ _ P rfl rfl rfl rfl ?sd1 ?sd2 (Nat.le_refl _) ?_
           case sd1 => rw [jz2]; omega
           case sd2 => unfold maxLen; omega
           intro w7 hown hgr
           have hcv := own_str (dst := 9) Try.underlying22 Try.underlying5 Try.underlying9 (made_u8 hown).out
           have HW7 := Aside.mk (pw_below hgr)
           clear hown hgr hj0 jz0 jz1 jz2
           have HT7 := Aside.mk (HT6.out.below HW7.out)
           have HB7 := Aside.mk (HB6.out.trans (But.below HW7.out))
           have HC7 := Aside.mk (HC6.out.below HW7.out)
           clear HT6 HT6' HB6 HC6 HW7
           obtain ⟨tx, htx⟩ : ∃ tx, tx = strOfNums (List.replicate P 0) := ⟨_, rfl⟩
           rw [← htx] at hcv
           have HTX : Aside (tx.size ≤ 1001) := ⟨by rw [htx, strOfNums_size, List.length_replicate]; exact hP1⟩
           clear htx
           have hbs : w2.heap.size ≤ w7.heap.size := HB7.out.size
           obtain ⟨w18, A8, cap8, hrun, hown, hkeep, hb8, hnew, hs8, hc8⟩ := own_app (P := Try.prog) (t := 24) i0 _ Try.underlying24 HI.out HI0.out HI1.out HI2.out rfl (by decide) (show w7.ownsRow w2.heap.size 34 3 (.slice (some ⟨b, 0, none⟩) L cap) L (cla as1) from by have := HT7.out.own; rwa [hlen.out] at this) [.int .i64 1, .int .i64 (0), .string tx] rfl (fun u hu => by simp at hu; rcases hu with rfl | rfl | rfl <;> rfl) (by unfold maxLen; omega) (by omega) hbs
           have HRUN := Aside.mk hrun
           have HT18 := Aside.mk (ActsAt.snoc (a := (1, 0, tx)) hown hlen.out.symm HT7.out.txt HTX.out)
           have HB18 := Aside.mk (HB7.out.low hb8)
           have HC18 := Aside.mk (HC7.out.low hb8 hg2 HA2.out)
           clear hrun hown hkeep hb8 hnew hs8 HB7 HC7 HT7)
        | (at_builtin; refine Go.Lib.wpList_append_run _ rfl _ _ _ _ rfl _ _ rfl rfl _ _ HRUN.out ?_))
      have htL : ((as1 ++ [(1, 0, tx)])).length ≤ 500 := by rw [List.length_append, hlen.out]; simp; omega
      have HTL := Aside.mk htL
      clear htL
      have hgW : g < w18.heap.size := Nat.lt_of_lt_of_le hg2 HB18.out.size
      have hlw : But (AtG g) w18 (w18.alloc (.cells windows.toArray 3)) := But.below (by go_grown)
      have HT20 := Aside.mk (HT18.out.but hlw hg2)
      have HB20 := Aside.mk (HB18.out.trans hlw)
      have HC20 := Aside.mk ((HC18.out.below ((Below.refl _ _).alloc (Nat.le_refl _) (.cells windows.toArray 3))).mono (show _ ≤ (1300 : Int) by omega))
      have HLIT : Aside (Blk (w18.alloc (.cells windows.toArray 3)) w18.heap.size 3 windows) := ⟨by exact Blk.new w18 3 windows⟩
      have hlv : w18.heap.size ≠ g := by omega
      clear hlw HT18 HB18 HC18
      go_wp2_with fail
      refine (curPick g A n c (1300) 5 4 _ HC20.out hn (by omega) (by omega) (by omega) (by omega)).mono ?_
      rintro e w21 ⟨qa, rfl, qaa, qab, hb, hc⟩
      have HB21 := Aside.mk (HB20.out.trans hb)
      have HC21 := Aside.mk hc
      have HT21 := Aside.mk (HT20.out.but hb hg2)
      have HLN := Aside.mk (HLIT.out.but hb hlv)
      clear hb hc HLIT HB20 HC20 HT20
      have HLIT := HLN
      clear HLN
      go_wp2_with fail
      refine (curPick g A n c (1300 + 2) 2 1 _ HC21.out hn (by omega) (by omega) (by omega) (by omega)).mono ?_
      rintro e w22 ⟨qb, rfl, qba, qbb, hb, hc⟩
      have HB22 := Aside.mk (HB21.out.trans hb)
      have HC22 := Aside.mk hc
      have HT22 := Aside.mk (HT21.out.but hb hg2)
      have HLN := Aside.mk (HLIT.out.but hb hlv)
      clear hb hc HLIT HB21 HC21 HT21
      have HLIT := HLN
      clear HLN
      go_wp2_with fail
      refine (curPick g A n c (1300 + 2 + 2) 2 1 _ HC22.out hn (by omega) (by omega) (by omega) (by omega)).mono ?_
      rintro e w23 ⟨qc, rfl, qca, qcb, hb, hc⟩
      have HB23 := Aside.mk (HB22.out.trans hb)
      have HC23 := Aside.mk hc
      have HT23 := Aside.mk (HT22.out.but hb hg2)
      have HLN := Aside.mk (HLIT.out.but hb hlv)
      clear hb hc HLIT HB22 HC22 HT22
      have HLIT := HLN
      clear HLN
      have m0 : 0 ≤ qb * qc := Int.mul_nonneg qba qca
      have m1 : qb * qc ≤ 1 * 1 := Int.mul_le_mul qbb qcb qca (by omega)
      have em : IntKind.i64.wrap (qb * qc) = qb * qc := by rw [IntKind.wrap_i64]; omega
      have et : (qb * qc).tmod 2 = qb * qc := by rw [Int.tmod_eq_emod_of_nonneg m0]; omega
      have et2 : qb * qc % 2 = qb * qc := by omega
      obtain ⟨y, hy⟩ := Int.eq_ofNat_of_zero_le (show 0 ≤ qa + qb * qc by omega)
      have hy6 : y < windows.length := by change y < 6; omega
      have hy7 : y < 6 := hy6
      have hy8 : (y : Int) < 6 := by omega
      obtain ⟨z, hz, hz0, hz1⟩ := windows_at y hy6
      have hcell : w23.cell? ⟨w18.heap.size, y, none⟩ = some (.int .i64 z) := by rw [← hz]; exact (HLIT.out.cell y).trans (List.getElem?_eq_getElem hy6)
      have HZ0 := Aside.mk hz0
      have HZ1 := Aside.mk hz1
      clear HLIT hz hz0 hz1 hy6 m0 m1
      go_wp2_with fail
      refine bodyPost_ret (res_two rfl _ _ _) rfl ?_
      exact ⟨z, _, (as1 ++ [(1, 0, tx)]), rfl, HZ0.out, HZ1.out, HT23.out.lower hw2, HTL.out, HB2.out.trans (Lib.Below.of_but HB23.out HGD.out hw2)⟩
    have b0 : (r == 0) = false := by simpa using cr0
    have b1 : (r == 1) = false := by simpa using cr1
    have b2 : (r == 2) = false := by simpa using cr2
    have b3 : (r == 3) = false := by simpa using cr3
    go_wp2_with fail
    have htL : (as1).length ≤ 500 := by rw [hlen.out]; omega
    have HTL := Aside.mk htL
    clear htL
    have hgW : g < w5.heap.size := Nat.lt_of_lt_of_le hg2 HB5.out.size
    have hlw : But (AtG g) w5 (w5.alloc (.cells windows.toArray 3)) := But.below (by go_grown)
    have HT20 := Aside.mk (HT5.out.but hlw hg2)
    have HB20 := Aside.mk (HB5.out.trans hlw)
    have HC20 := Aside.mk ((HC5.out.below ((Below.refl _ _).alloc (Nat.le_refl _) (.cells windows.toArray 3))).mono (show _ ≤ (1200 : Int) by omega))
    have HLIT : Aside (Blk (w5.alloc (.cells windows.toArray 3)) w5.heap.size 3 windows) := ⟨by exact Blk.new w5 3 windows⟩
    have hlv : w5.heap.size ≠ g := by omega
    clear hlw HT5 HB5 HC5
    go_wp2_with fail
    refine (curPick g A n c (1200) 5 4 _ HC20.out hn (by omega) (by omega) (by omega) (by omega)).mono ?_
    rintro e w21 ⟨qa, rfl, qaa, qab, hb, hc⟩
    have HB21 := Aside.mk (HB20.out.trans hb)
    have HC21 := Aside.mk hc
    have HT21 := Aside.mk (HT20.out.but hb hg2)
    have HLN := Aside.mk (HLIT.out.but hb hlv)
    clear hb hc HLIT HB20 HC20 HT20
    have HLIT := HLN
    clear HLN
    go_wp2_with fail
    refine (curPick g A n c (1200 + 2) 2 1 _ HC21.out hn (by omega) (by omega) (by omega) (by omega)).mono ?_
    rintro e w22 ⟨qb, rfl, qba, qbb, hb, hc⟩
    have HB22 := Aside.mk (HB21.out.trans hb)
    have HC22 := Aside.mk hc
    have HT22 := Aside.mk (HT21.out.but hb hg2)
    have HLN := Aside.mk (HLIT.out.but hb hlv)
    clear hb hc HLIT HB21 HC21 HT21
    have HLIT := HLN
    clear HLN
    go_wp2_with fail
    refine (curPick g A n c (1200 + 2 + 2) 2 1 _ HC22.out hn (by omega) (by omega) (by omega) (by omega)).mono ?_
    rintro e w23 ⟨qc, rfl, qca, qcb, hb, hc⟩
    have HB23 := Aside.mk (HB22.out.trans hb)
    have HC23 := Aside.mk hc
    have HT23 := Aside.mk (HT22.out.but hb hg2)
    have HLN := Aside.mk (HLIT.out.but hb hlv)
    clear hb hc HLIT HB22 HC22 HT22
    have HLIT := HLN
    clear HLN
    have m0 : 0 ≤ qb * qc := Int.mul_nonneg qba qca
    have m1 : qb * qc ≤ 1 * 1 := Int.mul_le_mul qbb qcb qca (by omega)
    have em : IntKind.i64.wrap (qb * qc) = qb * qc := by rw [IntKind.wrap_i64]; omega
    have et : (qb * qc).tmod 2 = qb * qc := by rw [Int.tmod_eq_emod_of_nonneg m0]; omega
    have et2 : qb * qc % 2 = qb * qc := by omega
    obtain ⟨y, hy⟩ := Int.eq_ofNat_of_zero_le (show 0 ≤ qa + qb * qc by omega)
    have hy6 : y < windows.length := by change y < 6; omega
    have hy7 : y < 6 := hy6
    have hy8 : (y : Int) < 6 := by omega
    obtain ⟨z, hz, hz0, hz1⟩ := windows_at y hy6
    have hcell : w23.cell? ⟨w5.heap.size, y, none⟩ = some (.int .i64 z) := by rw [← hz]; exact (HLIT.out.cell y).trans (List.getElem?_eq_getElem hy6)
    have HZ0 := Aside.mk hz0
    have HZ1 := Aside.mk hz1
    clear HLIT hz hz0 hz1 hy6 m0 m1
    go_wp2_with fail
    refine bodyPost_ret (res_two rfl _ _ _) rfl ?_
    exact ⟨z, _, as1, rfl, HZ0.out, HZ1.out, HT23.out.lower hw2, HTL.out, HB2.out.trans (Lib.Below.of_but HB23.out HGD.out hw2)⟩
end Go.Proofs.Ytlopbheahedofaa.Fn
