/- The program's HandStep. Conditions: those of each theorem. -/
import Derived.Test.YtlopbheahedofaaDoorHs16
set_option linter.unusedVariables false
namespace Go.Proofs.YtlopbheahedofaaDoor.Fn
open Go Go.RowKit Go.Proofs.YtlopbheahedofaaDoor.Lib Go.Proofs.YtlopbheahedofaaDoor.Plan
attribute [local go_sem] look_tmp look_const look_func look_global lookT_nil lookT_hit lookT_miss

theorem keep_row {α : Type} {R : Rec α} {tr : Prop} {w5 wa w9 : World} {lo lo2 hi g : Nat} {x : α} {cs : List Value} (h : R.rd tr w5 (Span lo hi) x cs) (hb : Below w5.heap.size w5 wa) (hg : wa.grownBy w9 (some g)) (h5 : hi ≤ w5.heap.size) (hl : lo2 ≤ lo) (hgl : g < lo) :
    R.rd tr w9 (Span lo2 w9.heap.size) x cs := by
  refine R.frame h (fun b hs => ?_) (fun b hs => ?_)
  · have h1 := hs.1
    have h2 := hs.2
    have hz := hb.size
    rw [hg.block b (by omega) (by intro e; injection e with e; omega)]
    exact hb.block b (by omega)
  · have h1 := hs.1
    have h2 := hs.2
    have hz := hb.size
    have hy := hg.size
    exact ⟨by omega, by omega⟩
set_option maxRecDepth 100000 in
set_option maxHeartbeats 8000000 in
theorem iHandStep (st : Int) (name cookie : ByteArray) (flags mine : Int) (calls peer : ByteArray) (both : Int) (data : ByteArray) (w : World) (hn : name.size ≤ 1048576) (hc : cookie.size ≤ 1048576) (hca : calls.size ≤ 1048576) (hpe : peer.size ≤ 1048576) (hd : data.size ≤ 1048576) (htab : Go.Lib.TabIs Tryd.prog w "internal/strconv.uint64pow10" .u64 Go.Lib.pow10Tab) :
    Calls Tryd.prog 10 #[.agg #[.int .i64 st, .string name, .string cookie, .int .i64 flags, .int .i64 mine, .string calls, .string peer, .int .i64 both], .string data] w (StepOK w (handR st name cookie flags mine calls peer both data) (handC (handB st name cookie flags mine calls peer both))) := by
  have HT := Aside.mk htab
  clear htab
  obtain ⟨r, hr⟩ : ∃ r, r = handR st name cookie flags mine calls peer both data := ⟨_, rfl⟩
  obtain ⟨cc, hcc⟩ : ∃ r, r = handC (handB st name cookie flags mine calls peer both) := ⟨_, rfl⟩
  rw [← hr, ← hcc]
  have HR := Aside.mk hr
  have HC := Aside.mk hcc
  clear hr hcc
  go_enter Tryd.func10, Tryd.ntmps10
  go_wp2_with fail
  obtain ⟨w3, hw3⟩ : ∃ x, x = ((w.alloc (.cells #[.int .i64 st, .string name, .string cookie, .int .i64 flags, .int .i64 mine, .string calls, .string peer, .int .i64 both] 27)).alloc (.cells #[.int .i64 0, .string ⟨#[]⟩, .string ⟨#[]⟩, .int .i64 0, .int .i64 0, .string ⟨#[]⟩, .string ⟨#[]⟩, .int .i64 0] 27)) := ⟨_, rfl⟩
  rw [← hw3]
  have K2 : Aside (Blk w3 w.heap.size 27 [.int .i64 st, .string name, .string cookie, .int .i64 flags, .int .i64 mine, .string calls, .string peer, .int .i64 both]) := ⟨by rw [hw3]; exact (Blk.new w 27 [.int .i64 st, .string name, .string cookie, .int .i64 flags, .int .i64 mine, .string calls, .string peer, .int .i64 both]).alloc _⟩
  have K4 : Aside (Blk w3 (w.heap.size + 1) 27 [.int .i64 0, .string ⟨#[]⟩, .string ⟨#[]⟩, .int .i64 0, .int .i64 0, .string ⟨#[]⟩, .string ⟨#[]⟩, .int .i64 0]) := ⟨by rw [hw3]; exact Blk.made (w.alloc _) 27 [.int .i64 0, .string ⟨#[]⟩, .string ⟨#[]⟩, .int .i64 0, .int .i64 0, .string ⟨#[]⟩, .string ⟨#[]⟩, .int .i64 0] (by simp)⟩
  have BL : Aside (Below w.heap.size w w3) := ⟨by rw [hw3]; go_grown⟩
  clear hw3
  refine (handOK st name cookie flags mine calls peer both w3 (by omega) (by omega) (by omega) (by omega)).mono ?_
  rintro e w4 ⟨rfl, hb⟩
  have K2n := Aside.mk (K2.out.below hb)
  have K4n := Aside.mk (K4.out.below hb)
  have BLn := Aside.mk (below_later BL.out hb)
  clear K2 K4 BL
  have K2 := K2n
  have K4 := K4n
  have BL := BLn
  clear BLn K2n K4n
  clear hb
  have u0 := K2.out.cell 0
  have u1 := K2.out.cell 1
  have u2 := K2.out.cell 2
  have u3 := K2.out.cell 3
  have u4 := K2.out.cell 4
  have u5 := K2.out.cell 5
  have u6 := K2.out.cell 6
  have u7 := K2.out.cell 7
  simp only [List.getElem?_cons_zero, List.getElem?_cons_succ] at u0 u1 u2 u3 u4 u5 u6 u7
  cases hB : handB st name cookie flags mine calls peer both
  · have E : Aside (r = ((0, ⟨#[]⟩, ⟨#[]⟩, 0, 0, ⟨#[]⟩, ⟨#[]⟩, 0), [])) := ⟨by rw [HR.out]; unfold handR; rw [hB]; rfl⟩
    have EC : cc = 1 := by rw [HC.out, hB]; rfl
    subst EC
    go_wp2_with (refine wpList_store_blk rfl 27 _ _ rfl (w.heap.size + 1) [.int .i64 0, .string ⟨#[]⟩, .string ⟨#[]⟩, .int .i64 0, .int .i64 0, .string ⟨#[]⟩, .string ⟨#[]⟩, .int .i64 0] rfl rfl 27 [.int .i64 0, .string ⟨#[]⟩, .string ⟨#[]⟩, .int .i64 0, .int .i64 0, .string ⟨#[]⟩, .string ⟨#[]⟩, .int .i64 0] (K4.out) (by kernel_rfl) rfl rfl ?_; intro w9 k9 hg9; have K9 := Aside.mk k9; have B9 := Aside.mk (below_grown (BL.out) hg9 (by omega)); clear k9 hg9)
    refine bodyPost_ret (res_ctt rfl _ _ (w.heap.size + 1) 27 [.int .i64 0, .string ⟨#[]⟩, .string ⟨#[]⟩, .int .i64 0, .int .i64 0, .string ⟨#[]⟩, .string ⟨#[]⟩, .int .i64 0] _ rfl K9.out Tryd.underlying27 rfl (by kernel_rfl)) rfl ⟨.slice none 0 0, by rw [E.out]; rfl, by rw [E.out]; exact strs_nil _ _ _, B9.out⟩
  have E : Aside (r = hearsR st name cookie flags mine calls peer both data) := ⟨by rw [HR.out]; unfold handR; rw [hB]; rfl⟩
  have EC : cc = 0 := by rw [HC.out, hB]; rfl
  subst EC
  go_wp2_with fail
  refine (hearsAll st name cookie flags mine calls peer both data w4 hn hc hca hpe hd hB (tab_below HT.out BL.out)).mono ?_
  rw [← E.out]
  rintro e w5 ⟨v, rfl, hrd, hb⟩
  have lt4 : w.heap.size + 1 < w4.heap.size := K4.out.lt
  have lz : w4.heap.size ≤ w5.heap.size := hb.size
  have K4n := Aside.mk (K4.out.below hb)
  have BLn := Aside.mk (below_later BL.out hb)
  clear K4 BL
  have K4 := K4n
  have BL := BLn
  clear BLn K4n
  have RD := Aside.mk hrd
  clear hb hrd u0 u1 u2 u3 u4 u5 u6 u7 K2
  obtain ⟨⟨r0, r1, r2, r3, r4, r5, r6, r7⟩, rs⟩ := r
  have K4s : Aside (Blk (w5.alloc (.cells #[.int .i64 r0, .string r1, .string r2, .int .i64 r3, .int .i64 r4, .string r5, .string r6, .int .i64 r7] 27)) (w.heap.size + 1) 27 [.int .i64 0, .string ⟨#[]⟩, .string ⟨#[]⟩, .int .i64 0, .int .i64 0, .string ⟨#[]⟩, .string ⟨#[]⟩, .int .i64 0]) := ⟨K4.out.alloc _⟩
  have BLs : Aside (Below w.heap.size w (w5.alloc (.cells #[.int .i64 r0, .string r1, .string r2, .int .i64 r3, .int .i64 r4, .string r5, .string r6, .int .i64 r7] 27))) := ⟨BL.out.alloc (by omega) _⟩
  have BA : Aside (Below w5.heap.size w5 (w5.alloc (.cells #[.int .i64 r0, .string r1, .string r2, .int .i64 r3, .int .i64 r4, .string r5, .string r6, .int .i64 r7] 27))) := ⟨(Below.refl _ _).alloc (Nat.le_refl _) _⟩
  go_wp2_with (refine wpList_store_blk rfl 27 _ _ rfl (w.heap.size + 1) [.int .i64 r0, .string r1, .string r2, .int .i64 r3, .int .i64 r4, .string r5, .string r6, .int .i64 r7] rfl rfl 27 [.int .i64 0, .string ⟨#[]⟩, .string ⟨#[]⟩, .int .i64 0, .int .i64 0, .string ⟨#[]⟩, .string ⟨#[]⟩, .int .i64 0] (K4s.out) (by kernel_rfl) rfl rfl ?_; intro w9 k9 hg9; have K9 := Aside.mk k9; have B9 := Aside.mk (below_grown (BLs.out) hg9 (by omega)); have R9 := Aside.mk hg9; clear k9 hg9)
  refine bodyPost_ret (res_ctt rfl _ _ (w.heap.size + 1) 27 [.int .i64 r0, .string r1, .string r2, .int .i64 r3, .int .i64 r4, .string r5, .string r6, .int .i64 r7] _ rfl K9.out Tryd.underlying27 rfl (by kernel_rfl)) rfl ⟨v, rfl, keep_row RD.out BA.out R9.out (by omega) (by omega) (by omega), B9.out⟩
end Go.Proofs.YtlopbheahedofaaDoor.Fn
