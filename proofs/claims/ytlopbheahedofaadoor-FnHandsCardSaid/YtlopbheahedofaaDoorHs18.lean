/- The contracts of HandStep in the form that the exact law's walk asks for. Conditions: those of each theorem. -/
import Derived.Test.YtlopbheahedofaaDoorHs17
set_option linter.unusedVariables false
namespace Go.Proofs.YtlopbheahedofaaDoor.Fn
open Go Go.RowKit Go.Proofs.YtlopbheahedofaaDoor.Lib Go.Proofs.YtlopbheahedofaaDoor.Plan

def Flat {α : Type} (R : Rec α) (f : α → List Value) : Prop := ∀ (tr : Prop) (w : World) (S : Nat → Prop) (a : α) (cs : List Value), R.rd tr w S a cs ↔ cs = f a
theorem flat_int : Flat Rec.int fun a => [.int .i64 a] := fun _ _ _ _ _ => Iff.rfl
theorem flat_str : Flat Rec.str fun a => [.string a] := fun _ _ _ _ _ => Iff.rfl
theorem flat_pair {α β : Type} {A : Rec α} {B : Rec β} {f : α → List Value} {g : β → List Value} (hA : Flat A f) (hB : Flat B g) : Flat (A.pair B) fun x => f x.1 ++ g x.2 := by
  intro tr w S x cs
  constructor
  · rintro ⟨ca, cb, Sa, Sb, rfl, ha, hb, -⟩
    rw [(hA _ _ _ _ _).1 ha, (hB _ _ _ _ _).1 hb]
  · rintro rfl
    exact ⟨_, _, fun _ => False, fun _ => False, rfl, (hA _ _ _ _ _).2 rfl, (hB _ _ _ _ _).2 rfl, fun _ h => h.elim, fun _ h => h.elim, fun _ _ h => h.elim⟩
def cellsH (a : AHand) : List Value := [.int .i64 a.1, .string a.2.1, .string a.2.2.1, .int .i64 a.2.2.2.1, .int .i64 a.2.2.2.2.1, .string a.2.2.2.2.2.1, .string a.2.2.2.2.2.2.1, .int .i64 a.2.2.2.2.2.2.2]
theorem flat_hand : Flat RHand cellsH := flat_pair flat_int (flat_pair flat_str (flat_pair flat_str (flat_pair flat_int (flat_pair flat_int (flat_pair flat_str (flat_pair flat_str flat_int))))))
theorem hand_any {tr tr2 : Prop} {w w2 : World} {S S2 : Nat → Prop} {a : AHand} {cs : List Value} (h : RHand.rd tr w S a cs) : RHand.rd tr2 w2 S2 a cs := (flat_hand _ _ _ _ _).2 ((flat_hand _ _ _ _ _).1 h)
noncomputable def hstR (a : AHand) (d : ByteArray) : AHand × List ByteArray × Int :=
  ((handR a.1 a.2.1 a.2.2.1 a.2.2.2.1 a.2.2.2.2.1 a.2.2.2.2.2.1 a.2.2.2.2.2.2.1 a.2.2.2.2.2.2.2 d).1, (handR a.1 a.2.1 a.2.2.1 a.2.2.2.1 a.2.2.2.2.1 a.2.2.2.2.2.1 a.2.2.2.2.2.2.1 a.2.2.2.2.2.2.2 d).2,
    handC (handB a.1 a.2.1 a.2.2.1 a.2.2.2.1 a.2.2.2.2.1 a.2.2.2.2.2.1 a.2.2.2.2.2.2.1 a.2.2.2.2.2.2.2))
/-- What HandStep is to answer. -/
def HStOK (w : World) (r : AHand × List ByteArray × Int) (e : Ending) (w2 : World) : Prop :=
  ∃ cs v, e = .returned (.tuple #[.agg cs.toArray, v, .int .i64 r.2.2]) ∧ RHand.rd True w2 (Span w.heap.size w2.heap.size) r.1 cs ∧ Rec.str.sl.rd True w2 (Span w.heap.size w2.heap.size) r.2.1 [v] ∧ Below w.heap.size w w2
theorem wt_hand (a : AHand) : RHand.wt a = a.2.1.size + a.2.2.1.size + a.2.2.2.2.2.1.size + a.2.2.2.2.2.2.1.size := by
  show 0 + (a.2.1.size + (a.2.2.1.size + (0 + (0 + (a.2.2.2.2.2.1.size + (a.2.2.2.2.2.2.1.size + 0)))))) = _
  omega
theorem step_as {w w2 : World} {a : AHand} {d : ByteArray} {e : Ending} (h : StepOK w (handR a.1 a.2.1 a.2.2.1 a.2.2.2.1 a.2.2.2.2.1 a.2.2.2.2.2.1 a.2.2.2.2.2.2.1 a.2.2.2.2.2.2.2 d) (handC (handB a.1 a.2.1 a.2.2.1 a.2.2.2.1 a.2.2.2.2.1 a.2.2.2.2.2.1 a.2.2.2.2.2.2.1 a.2.2.2.2.2.2.2)) e w2) : HStOK w (hstR a d) e w2 := by
  obtain ⟨v, rfl, hr, hb⟩ := h
  exact ⟨cellsH (hstR a d).1, v, rfl, (flat_hand _ _ _ _ _).2 rfl, hr, hb⟩
theorem sHSt (a : AHand) (d : ByteArray) (cs : List Value) (w : World) (h : RHand.rd False w (Old w) a cs) (hw : RHand.wt a ≤ 1048576) (hd : d.size ≤ 1048576) :
    Calls Tryd.prog 13 #[.agg cs.toArray, .string d] w (HStOK w (hstR a d)) := by
  rw [(flat_hand _ _ _ _ _).1 h]
  rw [wt_hand] at hw
  exact (sHandStep a.1 a.2.1 a.2.2.1 a.2.2.2.1 a.2.2.2.2.1 a.2.2.2.2.2.1 a.2.2.2.2.2.2.1 a.2.2.2.2.2.2.2 d w (by omega) (by omega) (by omega) (by omega) hd).mono fun e w2 hh => step_as hh
theorem iHSt (a : AHand) (d : ByteArray) (cs : List Value) (w : World) (h : RHand.rd False w (Old w) a cs) (hw : RHand.wt a ≤ 1048576) (hd : d.size ≤ 1048576) (htab : Go.Lib.TabIs Tryd.prog w "internal/strconv.uint64pow10" .u64 Go.Lib.pow10Tab) :
    Calls Tryd.prog 10 #[.agg cs.toArray, .string d] w (HStOK w (hstR a d)) := by
  rw [(flat_hand _ _ _ _ _).1 h]
  rw [wt_hand] at hw
  exact (iHandStep a.1 a.2.1 a.2.2.1 a.2.2.2.1 a.2.2.2.2.1 a.2.2.2.2.2.1 a.2.2.2.2.2.2.1 a.2.2.2.2.2.2.2 d w (by omega) (by omega) (by omega) (by omega) hd htab).mono fun e w2 hh => step_as hh
theorem and_range (x y : Int) : -9223372036854775808 ≤ bits .and .i64 x y ∧ bits .and .i64 x y ≤ 9223372036854775807 := wrap_within .i64 _
theorem says_small (st : Int) (name cookie : ByteArray) (flags mine : Int) (calls peer : ByteArray) (both : Int) (data : ByteArray) (hn : name.size ≤ 1048576) :
    (hearsR st name cookie flags mine calls peer both data).2.length ≤ 2 ∧ ∀ x ∈ (hearsR st name cookie flags mine calls peer both data).2, x.size ≤ 1048600 := by
  have b2 := bes_size 2 flags
  have b4 := bes_size 4 mine
  have c4 : ∀ n, (bes 4 n).size = 4 := bes_size 4
  have s1 : notT.size = 12 := rfl
  have s2 : snokT.size = 4 := rfl
  have s3 : simT.size = 16 := rfl
  have s4 : sokT.size = 3 := rfl
  have t1 : (⟨#[67]⟩ : ByteArray).size = 1 := rfl
  have t2 : (⟨#[114]⟩ : ByteArray).size = 1 := rfl
  have t3 : (⟨#[97]⟩ : ByteArray).size = 1 := rfl
  unfold hearsR
  repeat' split
  all_goals refine ⟨by simp, fun x hx => ?_⟩
  all_goals simp only [List.mem_cons, List.not_mem_nil, or_false] at hx
  all_goals first | exact hx.elim | skip
  all_goals try rcases hx with rfl | rfl
  all_goals try subst hx
  all_goals (try simp only [ByteArray.size_append, b2, b4, c4, t1, t2, t3])
  all_goals (try split)
  all_goals omega
theorem hand_small (st : Int) (name cookie : ByteArray) (flags mine : Int) (calls peer : ByteArray) (both : Int) (data : ByteArray) (hs : -9223372036854775808 ≤ st ∧ st ≤ 9223372036854775807) (hb : -9223372036854775808 ≤ both ∧ both ≤ 9223372036854775807) :
    ∃ st2 peer2 both2, (hearsR st name cookie flags mine calls peer both data).1 = (st2, name, cookie, flags, mine, calls, peer2, both2) ∧ (-9223372036854775808 ≤ st2 ∧ st2 ≤ 9223372036854775807) ∧ (-9223372036854775808 ≤ both2 ∧ both2 ≤ 9223372036854775807) ∧ peer2.size ≤ peer.size + data.size := by
  have x1 : ∀ n, (data.extract n data.size).size ≤ data.size := fun n => by rw [ByteArray.size_extract]; omega
  have r := and_range flags (numB (data.extract 1 3))
  have y3 := x1 3
  have y7 := x1 7
  unfold hearsR
  repeat' split
  all_goals refine ⟨_, _, _, rfl, ?_, ?_, ?_⟩
  all_goals omega
theorem hst_ok (a : AHand) (d : ByteArray) (ho : RHand.ok a) (hw : RHand.wt a ≤ 1048576) (hd : d.size ≤ 1048576) : RHand.ok (hstR a d).1 ∧ RHand.wt (hstR a d).1 ≤ 1073741824 := by
  obtain ⟨st, name, cookie, flags, mine, calls, peer, both⟩ := a
  obtain ⟨o0, o1, o2, o3, o4, o5, o6, o7⟩ := ho
  rw [wt_hand] at hw
  have w2 : name.size + cookie.size + calls.size + peer.size ≤ 1048576 := hw
  unfold hstR handR
  dsimp only
  split
  · obtain ⟨st2, peer2, both2, e, h1, h2, h3⟩ := hand_small st name cookie flags mine calls peer both d o0 o7
    rw [e, wt_hand]
    exact ⟨⟨h1, o1, o2, o3, o4, o5, show peer2.size ≤ 9223372036854775807 by omega, h2⟩, show name.size + cookie.size + calls.size + peer2.size ≤ 1073741824 by omega⟩
  · rw [wt_hand]
    exact ⟨by unfold zeroH; refine ⟨?_, ?_, ?_, ?_, ?_, ?_, ?_, ?_⟩ <;> first | (show (-9223372036854775808 : Int) ≤ 0 ∧ (0 : Int) ≤ 9223372036854775807; omega) | (show (0 : Nat) ≤ 9223372036854775807; omega), show (0 : Nat) + 0 + 0 + 0 ≤ 1073741824 by omega⟩
theorem sum_small : ∀ (l : List ByteArray), l.length ≤ 2 → (∀ x ∈ l, x.size ≤ 1048600) → l.length + (l.map ByteArray.size).sum ≤ 1073741824
  | [], _, _ => by simp
  | [a], _, h => by have := h a (by simp); simp; omega
  | [a, b], _, h => by have := h a (by simp); have := h b (by simp); simp; omega
  | _ :: _ :: _ :: _, h, _ => by simp at h
theorem hst_ok1 (a : AHand) (d : ByteArray) (hw : RHand.wt a ≤ 1048576) : Rec.str.sl.ok (hstR a d).2.1 ∧ Rec.str.sl.wt (hstR a d).2.1 ≤ 1073741824 := by
  obtain ⟨st, name, cookie, flags, mine, calls, peer, both⟩ := a
  rw [wt_hand] at hw
  have w2 : name.size + cookie.size + calls.size + peer.size ≤ 1048576 := hw
  unfold hstR handR
  dsimp only
  split
  · obtain ⟨h1, h2⟩ := says_small st name cookie flags mine calls peer both d (by omega)
    exact ⟨⟨by omega, fun x hx => by have := h2 x hx; show x.size ≤ _; omega⟩, sum_small _ h1 h2⟩
  · exact ⟨⟨Nat.zero_le _, fun x hx => by cases hx⟩, sum_small _ (Nat.zero_le _) (fun x hx => by cases hx)⟩
end Go.Proofs.YtlopbheahedofaaDoor.Fn
