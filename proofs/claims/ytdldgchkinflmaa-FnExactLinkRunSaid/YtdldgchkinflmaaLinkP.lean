/- A sealed text of which one byte is raised is no sealed text, unless it is the same. Conditions: those of each theorem. -/
import Derived.Test.YtdldgchkinflmaaLinkH
set_option linter.unusedVariables false
namespace Go.Proofs.Ytdldgchkinflmaa.Fn
open Go Go.RowKit Go.Proofs.Ytdldgchkinflmaa.Lib Go.Proofs.Ytdldgchkinflmaa.Plan

theorem mod_eq_mul {x y M : Int} (h : x % M = y % M) : ∃ k, x - y = M * k := Int.dvd_of_emod_eq_zero (Int.emod_eq_emod_iff_emod_sub_eq_zero.1 h)
theorem mul_back {d k : Int} (h : d * 33 = 4294967296 * k) : ∃ z, d = 4294967296 * z := ⟨1041204193 * k - 8 * d, by omega⟩
theorem small_zero {d z : Int} (h : d = 4294967296 * z) (h1 : d < 4294967296) (h2 : -4294967296 < d) : d = 0 := by omega
theorem hstep_inj {a b c : Int} (a0 : 0 ≤ a) (a1 : a < 4294967296) (b0 : 0 ≤ b) (b1 : b < 4294967296) (h : (a * 33 + c) % 4294967296 = (b * 33 + c) % 4294967296) : a = b := by
  obtain ⟨k, hk⟩ := mod_eq_mul h
  clear h
  have l1 : a - b < 4294967296 := by clear hk; omega
  have l2 : -4294967296 < a - b := by clear hk; omega
  have h2 : (a - b) * 33 = 4294967296 * k := by rw [← hk, Int.sub_mul]; exact (Int.add_sub_add_right ..).symm
  clear hk
  obtain ⟨z, hz⟩ := mul_back h2
  exact Int.sub_eq_zero.1 (small_zero hz l1 l2)
theorem hfold_inj : ∀ (l : List UInt8) {a b : Int}, 0 ≤ a → a < 4294967296 → 0 ≤ b → b < 4294967296 → hfold a l = hfold b l → a = b
  | [], a, b, _, _, _, _, h => h
  | c :: l, a, b, a0, a1, b0, b1, h => by
    have h2 : hfold ((a * 33 + (c.toNat : Int)) % 4294967296) l = hfold ((b * 33 + (c.toNat : Int)) % 4294967296) l := h
    exact hstep_inj a0 a1 b0 b1 (hfold_inj l (by omega) (by omega) (by omega) (by omega) h2)
theorem hfold_app (a : Int) (l m : List UInt8) : hfold a (l ++ m) = hfold (hfold a l) m := by simp only [hfold, List.foldl_append]
theorem hfold_differ {l m : List UInt8} {c d : UInt8} (h : hfold 5381 (l ++ c :: m) = hfold 5381 (l ++ d :: m)) : c = d := by
  rw [hfold_app, hfold_app] at h
  have r := hfold_range l 5381 (by omega) (by omega)
  have h2 : hfold ((hfold 5381 l * 33 + (c.toNat : Int)) % 4294967296) m = hfold ((hfold 5381 l * 33 + (d.toNat : Int)) % 4294967296) m := h
  have h3 := hfold_inj m (by omega) (by omega) (by omega) (by omega) h2
  have hc := c.toNat_lt
  have hd := d.toNat_lt
  have h4 : c.toNat = d.toNat := by omega
  exact UInt8.toNat_inj.1 h4
/-- A row of bytes with its number behind it. -/
def Hashed (D : List UInt8) : Prop := ∃ T, D = T ++ (bes 4 (hfold 5381 T)).data.toList
theorem bes4_inj {a b : Int} (a0 : 0 ≤ a) (a1 : a < 4294967296) (b0 : 0 ≤ b) (b1 : b < 4294967296) (h : (bes 4 a).data.toList = (bes 4 b).data.toList) : a = b := by
  rw [← numOf_bes 4 a a0 (by simpa using a1), ← numOf_bes 4 b b0 (by simpa using b1), h]
theorem split_at {l : List UInt8} {j : Nat} (h : j < l.length) : l = l.take j ++ l[j] :: l.drop (j + 1) := by
  rw [List.getElem_cons_drop, List.take_append_drop]
theorem set_split {l : List UInt8} {j : Nat} (h : j < l.length) (x : UInt8) : l.set j x = l.take j ++ x :: l.drop (j + 1) := List.set_eq_take_append_cons_drop .. |>.trans (if_pos h)
theorem hashed_set {D : List UInt8} {j : Nat} {x : UInt8} (hj : j < D.length) (h : Hashed D) (h2 : Hashed (D.set j x)) : x = D[j] := by
  obtain ⟨T, hT⟩ := h
  obtain ⟨T2, hT2⟩ := h2
  have r := hfold_range T 5381 (by omega) (by omega)
  have r2 := hfold_range T2 5381 (by omega) (by omega)
  have l1 : D.length = T.length + 4 := by rw [hT, List.length_append, bes_length]
  have l2 : D.length = T2.length + 4 := by rw [← List.length_set (i := j) (a := x), hT2, List.length_append, bes_length]
  by_cases hlt : j < T.length
  · rw [hT, List.set_append_left _ _ hlt] at hT2
    obtain ⟨e1, e2⟩ := List.append_inj hT2 (by rw [List.length_set]; omega)
    have e3 := bes4_inj r.1 r.2 r2.1 r2.2 e2
    rw [← e1, set_split hlt] at e3
    conv at e3 => lhs; rw [split_at hlt]
    have e4 := hfold_differ e3
    subst hT
    rw [List.getElem_append_left hlt]
    exact e4.symm
  · rw [hT, List.set_append_right _ _ (by omega)] at hT2
    obtain ⟨e1, e2⟩ := List.append_inj hT2 (by omega)
    rw [← e1] at e2
    subst hT
    rw [List.getElem_append_right (by omega)]
    have hb : j - T.length < (bes 4 (hfold 5381 T)).data.toList.length := by rw [bes_length]; omega
    have e3 : ((bes 4 (hfold 5381 T)).data.toList.set (j - T.length) x)[j - T.length]? = some x := List.getElem?_set_self hb
    rw [e2, List.getElem?_eq_getElem hb] at e3
    injection e3 with e3
    exact e3.symm
theorem sealed_hashed (k n : Int) (b : ByteArray) : Hashed (sealed k n b).data.toList := ⟨(sealText k n b).data.toList, by rw [sealed, app_toList]; rfl⟩
theorem unseal_hashed {d : ByteArray} (h : UnsealOK d) : Hashed d.data.toList := by
  rw [← h.2.2.2]
  exact sealed_hashed _ _ _
theorem spoil_list (d : ByteArray) (k : Nat) (c : UInt8) (h : k < d.data.toList.length) : (spoilT d k c).data.toList = d.data.toList.set k (d.data.toList[k] + c) := by
  have h2 : k < d.data.size := h
  show (d.data.set! k (d.data[k]! + c)).toList = _
  rw [getElem!_pos d.data k h2]
  simp
theorem data_ext {a b : ByteArray} (h : a.data.toList = b.data.toList) : a = b := by
  obtain ⟨⟨a⟩⟩ := a
  obtain ⟨⟨b⟩⟩ := b
  simpa using h
/-- What is left of a sealed text that is spoilt, if it can be unsealed: it is as it was. -/
theorem spoil_bad {d : ByteArray} (hd : Hashed d.data.toList) (k : Nat) (c : UInt8) (hk : k < d.size) (h : UnsealOK (spoilT d k c)) : spoilT d k c = d := by
  have hk2 : k < d.data.toList.length := by simpa using hk
  have h1 := unseal_hashed h
  rw [spoil_list d k c hk2] at h1
  have h2 := hashed_set hk2 hd h1
  apply data_ext
  rw [spoil_list d k c hk2, h2]
  exact List.set_getElem_self _
theorem seal_parts (k n : Int) (b : ByteArray) : (sealed k n b).data.toList = (bes 1 k).data.toList ++ ((bes 4 n).data.toList ++ ((bes 2 b.size).data.toList ++ (b.data.toList ++ (bes 4 (hash (sealText k n b))).data.toList))) := by
  rw [sealed, sealText]
  simp only [app_toList, List.append_assoc]
theorem sealed_kind {k n : Int} {b : ByteArray} (h0 : 0 ≤ k) (h1 : k < 256) : kindOf (sealed k n b) = k := by
  have e : ((sealed k n b).extract 0 1).data.toList = (bes 1 k).data.toList := by
    rw [ext_toList, seal_parts]
    have l1 := bes_length 1 k
    rw [List.drop_zero, List.take_append, List.take_of_length_le (by omega)]
    simp [l1]
  rw [kindOf, numB, e, numOf_bes _ _ h0 (by simpa using h1)]
theorem sealed_count {k n : Int} {b : ByteArray} (h0 : 0 ≤ n) (h1 : n < 4294967296) : countOf (sealed k n b) = n := by
  have e : ((sealed k n b).extract 1 5).data.toList = (bes 4 n).data.toList := by
    rw [ext_toList, seal_parts]
    have l1 := bes_length 1 k
    have l4 := bes_length 4 n
    rw [List.drop_append, List.drop_eq_nil_of_le (by omega), l1, List.nil_append, List.drop_zero, List.take_append, List.take_of_length_le (by omega)]
    simp [l4]
  rw [countOf, numB, e, numOf_bes _ _ h0 (by simpa using h1)]
theorem sealed_body {k n : Int} {b : ByteArray} : bodyOf (sealed k n b) = b := by
  apply data_ext
  rw [bodyOf, sealed_size, ext_toList, seal_parts]
  have l1 := bes_length 1 k
  have l4 := bes_length 4 n
  have l2 := bes_length 2 b.size
  have lb : b.data.toList.length = b.size := by simp
  rw [List.drop_append, List.drop_eq_nil_of_le (by omega), l1, List.nil_append, List.drop_append, List.drop_eq_nil_of_le (by omega), l4, List.nil_append, List.drop_append, List.drop_eq_nil_of_le (by omega), l2, List.nil_append, List.drop_zero, List.take_append, List.take_of_length_le (by omega), show 11 + b.size - 4 - 7 - b.data.toList.length = 0 by omega, List.take_zero, List.append_nil]
end Go.Proofs.Ytdldgchkinflmaa.Fn
