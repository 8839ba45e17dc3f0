/- Walks of the links' pack, both sides. Conditions: those of each theorem. -/
import Derived.Test.YtlopbheahedofaaLink2
set_option linter.unusedVariables false
namespace Go.Proofs.Ytlopbheahedofaa.Fn
open Go Go.RowKit Go.Proofs.Ytlopbheahedofaa.Lib Go.Proofs.Ytlopbheahedofaa.Plan
attribute [local go_sem] look_tmp look_const look_func look_global lookT_nil lookT_hit lookT_miss

set_option maxRecDepth 100000 in
set_option maxHeartbeats 4000000 in
theorem iPack (base g win i : Nat) (s : Lk) (w : World) (h : LkAt w base g 61 win s) (hi : i < s.given.length) (hn : s.given.length ≤ 1000000) (ht : ∀ t ∈ s.given, t.size ≤ 1000) (hl : s.way.length ≤ 100) :
    Calls Try.prog 43 #[.pointer (some ⟨g, 0, none⟩), .int .i64 i] w fun e w' => e = .returned (.tuple #[]) ∧ LkAt w' base g 61 win (packK i s) ∧ Below base w w' := by
  obtain ⟨vg, vt, vw, hv⟩ := h
  obtain ⟨A, cap, rfl, hcap, -⟩ := own_shape hv.og
  obtain ⟨b, rfl, hb, hlt, hc, -⟩ := own_addr hv.og (by omega)
  have e1 := hc i _ (cstr_at s.given i hi)
  have hsz : s.given[i].size ≤ 1000 := ht _ (List.getElem_mem hi)
  have HP : Aside (packK i s = putK (false, sealed 1 i s.given[i]) s) := ⟨by rw [packK, List.getD_eq_getElem?_getD, List.getElem?_eq_getElem hi]; rfl⟩
  have y1 := hv.blk.cell 1
  simp only [List.getElem?_cons_zero, List.getElem?_cons_succ] at y1
  have HV := Aside.mk hv
  obtain ⟨n, hnn⟩ : ∃ n, n = s.given.length := ⟨_, rfl⟩
  obtain ⟨t, htt⟩ : ∃ t, t = s.given[i] := ⟨_, rfl⟩
  rw [← htt] at e1 hsz HP
  rw [← hnn] at hi hn hcap y1
  have hin : (i : Int) < n := by omega
  have SO : Aside (SealOK 1 i t) := ⟨⟨Or.inl rfl, by omega, by omega, hsz⟩⟩
  have HL := Aside.mk hl
  clear hv hc ht htt hl hb
  go_enter Try.func43, Try.ntmps43
  go_wp2_with fail
  refine (iSeal_yes 1 i t _ SO.out).mono ?_
  rintro e w1 ⟨rfl, hb1⟩
  have HB := Aside.mk hb1
  clear hb1
  go_wp2_with fail
  refine (iPut base g win s (false, sealed 1 i t) _ ⟨_, _, _, HV.out.below HB.out⟩ HL.out).mono ?_
  rintro e w2 ⟨rfl, hk, hb2⟩
  rw [← HP.out] at hk
  have HK := Aside.mk hk
  have HB2 : Aside (Below base w w2) := ⟨(HB.out.mono HV.out.lt).trans hb2⟩
  clear hk hb2
  go_wp2_with fail
  go_end0
  exact ⟨rfl, HK.out, HB2.out⟩
set_option maxRecDepth 100000 in
set_option maxHeartbeats 4000000 in
theorem sPack (base g win i : Nat) (s : Lk) (w : World) (h : LkAt w base g 57 win s) (hi : i < s.given.length) (hn : s.given.length ≤ 1000000) (ht : ∀ t ∈ s.given, t.size ≤ 1000) (hl : s.way.length ≤ 100) :
    Calls Try.prog 39 #[.pointer (some ⟨g, 0, none⟩), .int .i64 i] w fun e w' => e = .returned (.tuple #[]) ∧ LkAt w' base g 57 win (packK i s) ∧ Below base w w' := by
  obtain ⟨vg, vt, vw, hv⟩ := h
  obtain ⟨A, cap, rfl, hcap, -⟩ := own_shape hv.og
  obtain ⟨b, rfl, hb, hlt, hc, -⟩ := own_addr hv.og (by omega)
  have e1 := hc i _ (cstr_at s.given i hi)
  have hsz : s.given[i].size ≤ 1000 := ht _ (List.getElem_mem hi)
  have HP : Aside (packK i s = putK (false, sealed 1 i s.given[i]) s) := ⟨by rw [packK, List.getD_eq_getElem?_getD, List.getElem?_eq_getElem hi]; rfl⟩
  have y1 := hv.blk.cell 1
  simp only [List.getElem?_cons_zero, List.getElem?_cons_succ] at y1
  have HV := Aside.mk hv
  obtain ⟨n, hnn⟩ : ∃ n, n = s.given.length := ⟨_, rfl⟩
  obtain ⟨t, htt⟩ : ∃ t, t = s.given[i] := ⟨_, rfl⟩
  rw [← htt] at e1 hsz HP
  rw [← hnn] at hi hn hcap y1
  have hin : (i : Int) < n := by omega
  have SO : Aside (SealOK 1 i t) := ⟨⟨Or.inl rfl, by omega, by omega, hsz⟩⟩
  have HL := Aside.mk hl
  clear hv hc ht htt hl hb
  go_enter Try.func39, Try.ntmps39
  go_wp2_with fail
  refine (sSeal_yes 1 i t _ SO.out).mono ?_
  rintro e w1 ⟨rfl, hb1⟩
  have HB := Aside.mk hb1
  clear hb1
  go_wp2_with fail
  refine (sPut base g win s (false, sealed 1 i t) _ ⟨_, _, _, HV.out.below HB.out⟩ HL.out).mono ?_
  rintro e w2 ⟨rfl, hk, hb2⟩
  rw [← HP.out] at hk
  have HK := Aside.mk hk
  have HB2 : Aside (Below base w w2) := ⟨(HB.out.mono HV.out.lt).trans hb2⟩
  clear hk hb2
  go_wp2_with fail
  go_end0
  exact ⟨rfl, HK.out, HB2.out⟩
end Go.Proofs.Ytlopbheahedofaa.Fn
