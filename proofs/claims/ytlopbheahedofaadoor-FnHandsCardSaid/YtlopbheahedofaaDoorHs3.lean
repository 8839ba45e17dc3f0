/- What a hand does with what it hears, as plain data. Conditions: those of each theorem. -/
import Derived.Test.YtlopbheahedofaaDoorHs2
import Derived.Test.YtlopbheahedofaaDoorHs0
import Derived.Test.YtlopbheahedofaaDoorDigest2
import Derived.Test.YtlopbheahedofaaDoorMark
set_option linter.unusedVariables false
namespace Go.Proofs.YtlopbheahedofaaDoor.Fn
open Go Go.RowKit Go.Proofs.YtlopbheahedofaaDoor.Lib Go.Proofs.YtlopbheahedofaaDoor.Plan

def sokT : ByteArray := ⟨#[115, 111, 107]⟩
def simT : ByteArray := ⟨#[115, 111, 107, 95, 115, 105, 109, 117, 108, 116, 97, 110, 101, 111, 117, 115]⟩
def notT : ByteArray := ⟨#[115, 110, 111, 116, 95, 97, 108, 108, 111, 119, 101, 100]⟩
def snokT : ByteArray := ⟨#[115, 110, 111, 107]⟩
def eqS (a b : ByteArray) : Bool := a.toList == b.toList
def gtS (a b : ByteArray) : Bool := !(Op.bytesLess a.toList b.toList || a.toList == b.toList)
/-- What is heard in each state, if it is right. -/
def hello (data : ByteArray) (c : UInt8) (m : Nat) : Bool := headIs data c && decide (m < data.size) && nameB (data.extract m data.size)
noncomputable def hearsR (st : Int) (name cookie : ByteArray) (flags mine : Int) (calls peer : ByteArray) (both : Int) (data : ByteArray) : AHand × List ByteArray :=
  if st = 0 then
    (if hello data 78 3 then
      (if eqS (data.extract 3 data.size) name then ((6, name, cookie, flags, mine, calls, peer, both), [notT])
      else if eqS (data.extract 3 data.size) calls && gtS name (data.extract 3 data.size) then ((6, name, cookie, flags, mine, calls, peer, both), [snokT])
      else ((3, name, cookie, flags, mine, calls, data.extract 3 data.size, bits .and .i64 flags (numB (data.extract 1 3))), [if eqS (data.extract 3 data.size) calls then simT else sokT, ((⟨#[67]⟩ ++ bes 2 flags) ++ bes 4 mine) ++ name]))
    else ((6, name, cookie, flags, mine, calls, peer, both), []))
  else if st = 1 then
    (if eqS data sokT || eqS data simT then ((2, name, cookie, flags, mine, calls, peer, both), []) else ((6, name, cookie, flags, mine, calls, peer, both), []))
  else if st = 2 then
    (if hello data 67 7 && !eqS (data.extract 7 data.size) name then ((4, name, cookie, flags, mine, calls, data.extract 7 data.size, bits .and .i64 flags (numB (data.extract 1 3))), [(⟨#[114]⟩ ++ bes 4 mine) ++ bes 4 (digV cookie (numB (data.extract 3 7)))])
    else ((6, name, cookie, flags, mine, calls, peer, both), []))
  else if st = 3 then
    (if headIs data 114 && decide (data.size = 9) && decide (numB (data.extract 5 9) = digV cookie mine) then ((5, name, cookie, flags, mine, calls, peer, both), [⟨#[97]⟩ ++ bes 4 (digV cookie (numB (data.extract 1 5)))])
    else ((6, name, cookie, flags, mine, calls, peer, both), []))
  else if st = 4 then
    (if headIs data 97 && decide (data.size = 5) && decide (numB (data.extract 1 5) = digV cookie mine) then ((5, name, cookie, flags, mine, calls, peer, both), [])
    else ((6, name, cookie, flags, mine, calls, peer, both), []))
  else ((st, name, cookie, flags, mine, calls, peer, both), [])
/-- What a hand that hears is to answer. -/
def HearsOK (w : World) (r : AHand × List ByteArray) (e : Ending) (w' : World) : Prop :=
  ∃ v, e = .returned (.tuple #[.agg #[.int .i64 r.1.1, .string r.1.2.1, .string r.1.2.2.1, .int .i64 r.1.2.2.2.1, .int .i64 r.1.2.2.2.2.1, .string r.1.2.2.2.2.2.1, .string r.1.2.2.2.2.2.2.1, .int .i64 r.1.2.2.2.2.2.2.2], v]) ∧
    Rec.str.sl.rd True w' (Span w.heap.size w'.heap.size) r.2 [v] ∧ Below w.heap.size w w'
theorem eq_sok (d : ByteArray) : eqS d sokT = (d.toList == [115, 111, 107]) := by
  have e : sokT.toList = [115, 111, 107] := by rw [ByteArray.toList_eq]; rfl
  unfold eqS
  rw [e]
theorem eq_sim (d : ByteArray) : eqS d simT = (d.toList == [115, 111, 107, 95, 115, 105, 109, 117, 108, 116, 97, 110, 101, 111, 117, 115]) := by
  have e : simT.toList = [115, 111, 107, 95, 115, 105, 109, 117, 108, 116, 97, 110, 101, 111, 117, 115] := by rw [ByteArray.toList_eq]; rfl
  unfold eqS
  rw [e]
theorem strs_none (w : World) (S : Nat → Prop) : Rec.str.sl.rd True w S [] [.slice none 0 0] := ⟨none, 0, rfl, Nat.le_refl _, Or.inl rfl⟩
theorem strs_row {w : World} {S : Nat → Prop} {g : Nat} {T : TypeId} (l : List ByteArray) (h : Blk w g T (l.map Value.string)) (hS : S g) : Rec.str.sl.rd True w S l [.slice (some ⟨g, 0, none⟩) l.length l.length] := by
  refine ⟨_, _, rfl, Nat.le_refl _, Or.inr ⟨g, 0, rfl, hS, fun _ _ => False, fun _ _ h => h.elim, fun _ => ⟨fun o => h.free o, ?_⟩, fun j hj => ⟨[.string l[j]], rfl, fun t ht => ?_⟩⟩⟩
  · intros; exact False.elim ‹_›
  · have ht' : t < 1 := ht
    obtain rfl : t = 0 := by omega
    have hc := h.cell j
    rw [List.getElem?_map, List.getElem?_eq_getElem hj] at hc
    rw [show 0 + j * Rec.str.k + 0 = j from by show 0 + j * 1 + 0 = j; omega]
    exact hc
set_option maxRecDepth 100000 in
set_option maxHeartbeats 4000000 in
theorem hears56 (st : Int) (name cookie : ByteArray) (flags mine : Int) (calls peer : ByteArray) (both : Int) (data : ByteArray) (w : World) (hst : st = 5 ∨ st = 6) :
    Calls Tryd.prog 27 #[.agg #[.int .i64 st, .string name, .string cookie, .int .i64 flags, .int .i64 mine, .string calls, .string peer, .int .i64 both], .string data] w (HearsOK w (hearsR st name cookie flags mine calls peer both data)) := by
  rcases hst with rfl | rfl
  · go_enter Tryd.func27, Tryd.ntmps27
    go_wp2_with fail
    refine bodyPost_ret (res_ct rfl _ _ (w.heap.size + 1) 27 [.int .i64 5, .string name, .string cookie, .int .i64 flags, .int .i64 mine, .string calls, .string peer, .int .i64 both] _ rfl ?lk0 Tryd.underlying27 rfl (by kernel_rfl)) rfl ?lp0
    case lk0 => exact (Blk.made (w.alloc _) 27 _ (by simp)).alloc _
    case lp0 => exact ⟨_, rfl, strs_none _ _, by go_grown⟩
  · go_enter Tryd.func27, Tryd.ntmps27
    go_wp2_with fail
    refine bodyPost_ret (res_ct rfl _ _ (w.heap.size + 1) 27 [.int .i64 6, .string name, .string cookie, .int .i64 flags, .int .i64 mine, .string calls, .string peer, .int .i64 both] _ rfl ?lk1 Tryd.underlying27 rfl (by kernel_rfl)) rfl ?lp1
    case lk1 => exact (Blk.made (w.alloc _) 27 _ (by simp)).alloc _
    case lp1 => exact ⟨_, rfl, strs_none _ _, by go_grown⟩
set_option maxRecDepth 100000 in
set_option maxHeartbeats 4000000 in
theorem hears1 (name cookie : ByteArray) (flags mine : Int) (calls peer : ByteArray) (both : Int) (data : ByteArray) (w : World) :
    Calls Tryd.prog 27 #[.agg #[.int .i64 1, .string name, .string cookie, .int .i64 flags, .int .i64 mine, .string calls, .string peer, .int .i64 both], .string data] w (HearsOK w (hearsR 1 name cookie flags mine calls peer both data)) := by
  have E : Aside (hearsR 1 name cookie flags mine calls peer both data = if eqS data sokT || eqS data simT then ((2, name, cookie, flags, mine, calls, peer, both), []) else ((6, name, cookie, flags, mine, calls, peer, both), [])) := ⟨rfl⟩
  obtain ⟨r, hr⟩ : ∃ r, r = hearsR 1 name cookie flags mine calls peer both data := ⟨_, rfl⟩
  rw [← hr] at E ⊢
  clear hr
  cases b1 : (data.toList == [115, 111, 107])
  · cases b2 : (data.toList == [115, 111, 107, 95, 115, 105, 109, 117, 108, 116, 97, 110, 101, 111, 117, 115])
    · have E2 : Aside (r = ((6, name, cookie, flags, mine, calls, peer, both), [])) := ⟨by
        have h1 : eqS data sokT = false := by rw [eq_sok]; exact b1
        have h2 : eqS data simT = false := by rw [eq_sim]; exact b2
        rw [E.out, h1, h2]; rfl⟩
      clear E
      go_enter Tryd.func27, Tryd.ntmps27
      go_wp2_with fail
      refine bodyPost_ret (res_ct rfl _ _ (w.heap.size + 1) 27 [.int .i64 6, .string name, .string cookie, .int .i64 flags, .int .i64 mine, .string calls, .string peer, .int .i64 both] _ rfl ?lk0 Tryd.underlying27 rfl (by kernel_rfl)) rfl ?lp0
      case lk0 => exact (Blk.made (w.alloc _) 27 _ (by simp)).alloc _
      case lp0 =>
        rw [E2.out]
        exact ⟨_, rfl, strs_none _ _, by go_grown⟩
    · have E2 : Aside (r = ((2, name, cookie, flags, mine, calls, peer, both), [])) := ⟨by
        have h2 : eqS data simT = true := by rw [eq_sim]; exact b2
        rw [E.out, h2, Bool.or_true]; rfl⟩
      clear E
      go_enter Tryd.func27, Tryd.ntmps27
      go_wp2_with fail
      refine bodyPost_ret (res_ct rfl _ _ (w.heap.size + 1) 27 [.int .i64 2, .string name, .string cookie, .int .i64 flags, .int .i64 mine, .string calls, .string peer, .int .i64 both] _ rfl ?lk1 Tryd.underlying27 rfl (by kernel_rfl)) rfl ?lp1
      case lk1 => exact (Blk.made (w.alloc _) 27 _ (by simp)).alloc _
      case lp1 =>
        rw [E2.out]
        exact ⟨_, rfl, strs_none _ _, by go_grown⟩
  · have E2 : Aside (r = ((2, name, cookie, flags, mine, calls, peer, both), [])) := ⟨by
      have h1 : eqS data sokT = true := by rw [eq_sok]; exact b1
      rw [E.out, h1]; rfl⟩
    clear E
    go_enter Tryd.func27, Tryd.ntmps27
    go_wp2_with fail
    refine bodyPost_ret (res_ct rfl _ _ (w.heap.size + 1) 27 [.int .i64 2, .string name, .string cookie, .int .i64 flags, .int .i64 mine, .string calls, .string peer, .int .i64 both] _ rfl ?lk2 Tryd.underlying27 rfl (by kernel_rfl)) rfl ?lp2
    case lk2 => exact (Blk.made (w.alloc _) 27 _ (by simp)).alloc _
    case lp2 =>
      rw [E2.out]
      exact ⟨_, rfl, strs_none _ _, by go_grown⟩
end Go.Proofs.YtlopbheahedofaaDoor.Fn
