/- Walks of Unseal, the reference's and the program's: both answer the plain function 'unsealV'. Conditions: a text of at most 2^47 bytes. -/
import Derived.Test.YtlopbheahedofaaDoorUnpack
set_option linter.unusedVariables false
namespace Go.Proofs.YtlopbheahedofaaDoor.Fn
open Go.RowKit Go.Proofs.YtlopbheahedofaaDoor.Lib

/-! ### what a reader's step comes to -/
def NumAny (data : ByteArray) (k m : Nat) (b : Bool) (v : Int) (k' : Nat) (b' : Bool) : Prop :=
  (b = false ∧ k + m ≤ data.size ∧ v = numB (data.extract k (k + m)) ∧ k' = k + m ∧ b' = false) ∨ (¬ (b = false ∧ k + m ≤ data.size) ∧ v = 0 ∧ k' = k ∧ b' = true)
def NumPost (g : Nat) (T : TypeId) (data : ByteArray) (k m : Nat) (b : Bool) (l f : Value) (w : World) (e : Ending) (w' : World) : Prop :=
  ∃ v k' b', e = .returned (.int .i64 v) ∧ w.grownBy w' (some g) ∧ Blk w' g T [.string data, .int .i64 (k' : Nat), .bool b', l, f] ∧ k' ≤ data.size ∧ NumAny data k m b v k' b'
theorem number_any (g : Nat) (T : TypeId) (data : ByteArray) (k m : Nat) (b : Bool) (l f : Value) (w : World) (hb : Blk w g T [.string data, .int .i64 k, .bool b, l, f]) (hk : k ≤ data.size) (hm : m ≤ 7) (hd : data.size ≤ 140737488355328) :
    Calls Tryd.prog 37 #[.pointer (some ⟨g, 0, none⟩), .int .i64 m] w (NumPost g T data k m b l f w) := by
  by_cases h : b = false ∧ k + m ≤ data.size
  · obtain ⟨rfl, h⟩ := h
    exact (number_ok g T data k m l f w hb h hm hd).mono fun e w' ⟨he, hg, hb'⟩ => ⟨_, _, _, he, hg, hb', h, .inl ⟨rfl, h, rfl, rfl, rfl⟩⟩
  · exact (number_bad g T data k m b l f w hb (by omega) (by omega) (by omega) (by omega) hd (by cases b; (· exact .inr (.inr (by simp at h; omega))); (· exact .inl rfl))).mono fun e w' ⟨he, hg, hb'⟩ => ⟨_, _, _, he, hg, hb', hk, .inr ⟨h, rfl, rfl, rfl⟩⟩
def TakeAny (data : ByteArray) (k : Nat) (n : Int) (b : Bool) (s : ByteArray) (k' : Nat) (b' : Bool) : Prop :=
  (b = false ∧ 0 ≤ n ∧ k + n ≤ data.size ∧ s = data.extract k (k + n.toNat) ∧ k' = k + n.toNat ∧ b' = false) ∨ (¬ (b = false ∧ 0 ≤ n ∧ k + n ≤ data.size) ∧ s = ⟨#[]⟩ ∧ k' = k ∧ b' = true)
def TakePost (g : Nat) (T : TypeId) (data : ByteArray) (k : Nat) (n : Int) (b : Bool) (l f : Value) (w : World) (e : Ending) (w' : World) : Prop :=
  ∃ s k' b', e = .returned (.string s) ∧ w.grownBy w' (some g) ∧ Blk w' g T [.string data, .int .i64 (k' : Nat), .bool b', l, f] ∧ k' ≤ data.size ∧ TakeAny data k n b s k' b'
theorem take_any (g : Nat) (T : TypeId) (data : ByteArray) (k : Nat) (n : Int) (b : Bool) (l f : Value) (w : World) (hb : Blk w g T [.string data, .int .i64 k, .bool b, l, f]) (hk : k ≤ data.size) (hn0 : -140737488355328 ≤ n) (hn1 : n ≤ 140737488355328) (hd : data.size ≤ 140737488355328) :
    Calls Tryd.prog 47 #[.pointer (some ⟨g, 0, none⟩), .int .i64 n] w (TakePost g T data k n b l f w) := by
  by_cases h : b = false ∧ 0 ≤ n ∧ k + n ≤ data.size
  · obtain ⟨rfl, h0, h⟩ := h
    obtain ⟨m, rfl⟩ := Int.eq_ofNat_of_zero_le h0
    exact (take_ok g T data k m l f w hb (by omega) hd).mono fun e w' ⟨he, hg, hb'⟩ => ⟨_, _, _, he, hg, hb', by omega, .inl ⟨rfl, h0, h, rfl, rfl, rfl⟩⟩
  · exact (take_bad g T data k n b l f w hb (by omega) (by omega) hn0 hn1 hd (by cases b; (· exact .inr (by simp at h; omega)); (· exact .inl rfl))).mono fun e w' ⟨he, hg, hb'⟩ => ⟨_, _, _, he, hg, hb', hk, .inr ⟨h, rfl, rfl, rfl⟩⟩

/-! ### plain facts on texts -/
theorem numOf_strOfNums (l : List Int) (h : ∀ x ∈ l, 0 ≤ x ∧ x < 256) : ∀ a : Int, (strOfNums l).data.toList.foldl (fun n c => n * 256 + (c.toNat : Int)) a = l.foldl (fun n c => n * 256 + c) a := by
  rw [strOfNums_data]
  induction l with
  | nil => intro a; rfl
  | cons x l ih =>
    intro a
    rw [List.map_cons, List.foldl_cons, List.foldl_cons, ih (fun y hy => h y (List.mem_cons_of_mem _ hy))]
    have := h x (List.mem_cons_self ..)
    have e : ((UInt8.ofNat x.toNat).toNat : Int) = x := by simp; omega
    rw [e]
theorem be_mem : ∀ (s : Nat) (n : Int), ∀ x ∈ be s n, 0 ≤ x ∧ x < 256
  | 0, _, x, hx => by simp [be] at hx
  | s + 1, n, x, hx => by
    rw [be, List.mem_append, List.mem_singleton] at hx
    rcases hx with hx | rfl
    · exact be_mem s _ x hx
    · omega
theorem be_fold : ∀ (s : Nat) (n : Int), 0 ≤ n → (be s n).foldl (fun n c => n * 256 + c) 0 = n % 256 ^ s
  | 0, n, _ => by simp [be]
  | s + 1, n, h => by
    obtain ⟨N, rfl⟩ := Int.eq_ofNat_of_zero_le h
    rw [be, List.foldl_append, be_fold s _ (by omega), List.foldl_cons, List.foldl_nil, Int.pow_succ, Int.mul_comm (256 ^ s) 256]
    have e := Nat.mod_mul (x := N) (a := 256) (b := 256 ^ s)
    have e2 : ((N % (256 * 256 ^ s) : Nat) : Int) = ((N % 256 + 256 * (N / 256 % 256 ^ s) : Nat) : Int) := congrArg _ e
    simp only [Int.natCast_emod, Int.natCast_add, Int.natCast_mul, Int.natCast_ediv, Int.natCast_pow] at e2
    change (N : Int) % (256 * 256 ^ s) = (N : Int) % 256 + 256 * ((N : Int) / 256 % 256 ^ s) at e2
    rw [e2]
    omega
theorem numOf_bes (s : Nat) (n : Int) (h0 : 0 ≤ n) (h1 : n < 256 ^ s) : numOf (bes s n).data.toList = n := by
  unfold numOf bes
  rw [numOf_strOfNums _ (be_mem s n), be_fold s n h0, Int.emod_eq_of_lt h0 h1]
def kindOf (data : ByteArray) : Int := numB (data.extract 0 1)
def countOf (data : ByteArray) : Int := numB (data.extract 1 5)
def bodyOf (data : ByteArray) : ByteArray := data.extract 7 (data.size - 4)
def UnsealOK (data : ByteArray) : Prop := 11 ≤ data.size ∧ data.size ≤ 1011 ∧ SealOK (kindOf data) (countOf data) (bodyOf data) ∧ sealed (kindOf data) (countOf data) (bodyOf data) = data
open Classical in
noncomputable def unsealV (data : ByteArray) : Value := if UnsealOK data then .tuple #[.int .i64 (kindOf data), .int .i64 (countOf data), .string (bodyOf data), .int .i64 0] else .tuple #[.int .i64 0, .int .i64 0, .string ⟨#[]⟩, .int .i64 4]
theorem unsealV_yes {data : ByteArray} (h : UnsealOK data) : unsealV data = .tuple #[.int .i64 (kindOf data), .int .i64 (countOf data), .string (bodyOf data), .int .i64 0] := if_pos h
theorem unsealV_no {data : ByteArray} (h : ¬ UnsealOK data) : unsealV data = .tuple #[.int .i64 0, .int .i64 0, .string ⟨#[]⟩, .int .i64 4] := if_neg h
theorem kindOf_at (data : ByteArray) (h : 0 < data.size) : kindOf data = (data[0].toNat : Int) := by
  rw [kindOf, numB, ext_toList]
  have hl : 0 < data.data.toList.length := by simpa using h
  rw [List.drop_zero, List.take_succ_eq_append_getElem hl, List.take_zero]
  simp [numOf]
  rfl
theorem sealed_size (kind n : Int) (body : ByteArray) : (sealed kind n body).size = 11 + body.size := by
  rw [sealed, ByteArray.size_append, sealText_size, bes_size]
  omega
theorem sealed_len (kind n : Int) (body : ByteArray) (h : body.size ≤ 65535) : numB ((sealed kind n body).extract 5 7) = body.size := by
  have e : ((sealed kind n body).extract 5 7).data.toList = (bes 2 body.size).data.toList := by
    rw [ext_toList, sealed, sealText]
    simp only [app_toList]
    have l1 := bes_length 1 kind
    have l4 := bes_length 4 n
    have l2 := bes_length 2 body.size
    rw [List.append_assoc, List.append_assoc, List.drop_append, List.drop_eq_nil_of_le (by rw [List.length_append]; omega), List.length_append, l1, l4, List.nil_append, List.drop_zero, List.take_append, List.take_of_length_le (by omega)]
    simp [l2]
  rw [numB, e, numOf_bes _ _ (by omega) (by simp; omega)]
/-- What the program's reader takes is what the reference takes, where the text is a sealed one. -/
theorem unseal_len {data : ByteArray} (h : UnsealOK data) : numB (data.extract 5 7) = (bodyOf data).size ∧ (bodyOf data).size + 11 = data.size := by
  obtain ⟨h0, h1, hs, he⟩ := h
  have hz : (bodyOf data).size + 11 = data.size := by rw [bodyOf, ByteArray.size_extract]; omega
  refine ⟨?_, hz⟩
  have h2 := sealed_len (kindOf data) (countOf data) (bodyOf data) (by omega)
  rwa [he] at h2
theorem res4 {fn : Func} {t0 t1 t2 t3 : Tmp} (h : fn.results = #[.tmp t0, .tmp t1, .tmp t2, .tmp t3]) (tmps : Array Value) (P : Program) (w : World) :
    (results fn tmps).run P w = .ok (.tuple #[tmps.getD t0 undef, tmps.getD t1 undef, tmps.getD t2 undef, tmps.getD t3 undef]) w := by
  simp [results, h]
theorem extract_size {data : ByteArray} {a b : Nat} (h1 : a ≤ b) (h2 : b ≤ data.size) : (data.extract a b).size = b - a := by rw [ByteArray.size_extract]; omega
theorem l01Number (s : ByteArray) (w : World) (hs : s.size ≤ 7) : Calls Tryd.prog 32 #[.string s] w fun e w' => e = .returned (.int .i64 (numB s)) ∧ w = w' := by
  go_enter Tryd.func32, Tryd.ntmps32
  go_wp2
  go_loop [3, 4] (fun x i => ∃ (k : Nat) (y : Int), k ≤ s.size ∧ i = .int .i64 k ∧ x = .int .i64 y ∧ 0 ≤ y ∧ Aside (y = numOf (s.data.toList.take k))) (fun _ i => s.size - (intOf i).toNat)
  case atStart => exact ⟨0, 0, Nat.zero_le _, rfl, rfl, by omega, ⟨rfl⟩⟩
  case round =>
    obtain ⟨k, y, hk, rfl, rfl, y0, hy⟩ := hrel
    by_cases hlt : k < s.size
    · have hc := (s[k]).toNat_lt
      have y1 : y < 281474976710656 := by rw [hy.out]; exact numOf_lt (k := k) (m := k + 1) (by simp; omega) (by omega) (by omega)
      have HN := numOf_snoc (s.data.toList.take k) s[k]
      rw [← take_snoc s k hlt, ← hy.out] at HN
      replace HN := Aside.mk HN
      go_wp2
      go_round
      case rel => exact ⟨k + 1, _, by omega, by go_num, rfl, by omega, ⟨HN.out.symm⟩⟩
      case measure => simp [intOf]; omega
    · obtain rfl : k = s.size := by omega
      go_wp2
      go_ret
      exact ⟨ret_int (by rw [hy.out, take_all]; rfl), rfl⟩
/-! ### the program's -/
def TestOK (data : ByteArray) (b : Bool) (v1 v2 : Int) (s : ByteArray) : Prop := b = false ∧ SealOK v1 v2 s ∧ sealed v1 v2 s = data
theorem test_iff {data : ByteArray} (hd : data.size ≤ 1011) {v1 v2 v3 : Int} {k1 k2 k3 k4 : Nat} {b1 b2 b3 b4 : Bool} {s : ByteArray} (h1 : NumAny data 0 1 false v1 k1 b1) (h2 : NumAny data k1 4 b1 v2 k2 b2) (h3 : NumAny data k2 2 b2 v3 k3 b3)
    (h4 : TakeAny data k3 v3 b3 s k4 b4) : (TestOK data b4 v1 v2 s → UnsealOK data ∧ v1 = kindOf data ∧ v2 = countOf data ∧ s = bodyOf data) ∧ (UnsealOK data → TestOK data b4 v1 v2 s) := by
  constructor
  · rintro ⟨hb, hS, hE⟩
    rcases h4 with ⟨rfl, h40, h41, rfl, -, -⟩ | ⟨_, _, _, rfl⟩
    · rcases h3 with ⟨rfl, h30, rfl, rfl, -⟩ | ⟨_, _, _, h⟩
      · rcases h2 with ⟨rfl, h20, rfl, rfl, -⟩ | ⟨_, _, _, h⟩
        · rcases h1 with ⟨-, h10, rfl, rfl, -⟩ | ⟨_, _, _, h⟩
          · have hz := congrArg ByteArray.size hE
            rw [sealed_size, extract_size (by omega) (by omega)] at hz
            have e : data.extract (0 + 1 + 4 + 2) (0 + 1 + 4 + 2 + (numB (data.extract (0 + 1 + 4) (0 + 1 + 4 + 2))).toNat) = bodyOf data := by
              rw [bodyOf]
              congr 1
              omega
            rw [e] at hS hE ⊢
            exact ⟨⟨by omega, hd, hS, hE⟩, rfl, rfl, rfl⟩
          · cases h
        · cases h
      · cases h
    · cases hb
  · intro h
    have hl := unseal_len h
    obtain ⟨s0, s1, hS, hE⟩ := h
    rcases h1 with ⟨-, h10, rfl, rfl, rfl⟩ | ⟨h, _⟩
    · rcases h2 with ⟨-, h20, rfl, rfl, rfl⟩ | ⟨h, _⟩
      · rcases h3 with ⟨-, h30, rfl, rfl, rfl⟩ | ⟨h, _⟩
        · change numB (data.extract (0 + 1 + 4) (0 + 1 + 4 + 2)) = _ ∧ _ at hl
          rcases h4 with ⟨-, h40, h41, rfl, rfl, rfl⟩ | ⟨h, _⟩
          · have e : data.extract (0 + 1 + 4 + 2) (0 + 1 + 4 + 2 + (numB (data.extract (0 + 1 + 4) (0 + 1 + 4 + 2))).toNat) = bodyOf data := by
              have hz := hl.2
              rw [hl.1, Int.toNat_natCast, show 0 + 1 + 4 + 2 + (bodyOf data).size = data.size - 4 by omega]
              rfl
            rw [e]
            exact ⟨rfl, hS, hE⟩
          · exact absurd ⟨rfl, by omega, by omega⟩ h
        · exact absurd ⟨rfl, by omega⟩ h
      · exact absurd ⟨rfl, by omega⟩ h
    · exact absurd ⟨rfl, by omega⟩ h
theorem numAny_range {data : ByteArray} {k m : Nat} {b : Bool} {v : Int} {k' : Nat} {b' : Bool} (h : NumAny data k m b v k' b') (hm : m ≤ 4) : 0 ≤ v ∧ v ≤ 4294967295 := by
  rcases h with ⟨_, h1, rfl, _⟩ | ⟨_, rfl, _⟩
  · have h := numB_range (data.extract k (k + m))
    rw [extract_size (by omega) h1, show k + m - k = m by omega] at h
    have h2 : (256 : Int) ^ m ≤ 4294967296 := by
      have hk : m = 0 ∨ m = 1 ∨ m = 2 ∨ m = 3 ∨ m = 4 := by omega
      rcases hk with rfl | rfl | rfl | rfl | rfl <;> decide
    omega
  · omega
theorem takeAny_size {data : ByteArray} {k : Nat} {n : Int} {b : Bool} {s : ByteArray} {k' : Nat} {b' : Bool} (h : TakeAny data k n b s k' b') : s.size ≤ data.size := by
  rcases h with ⟨_, h0, h1, rfl, _⟩ | ⟨_, rfl, _⟩
  · rw [extract_size (by omega) (by omega)]; omega
  · exact Nat.zero_le _
end Go.Proofs.YtlopbheahedofaaDoor.Fn
