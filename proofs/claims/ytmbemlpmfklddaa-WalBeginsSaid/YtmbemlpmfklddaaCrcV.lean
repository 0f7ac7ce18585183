/- The check sum by bit vectors, and that the reference tells the same sum. -/
import Derived.Test.YtmbemlpmfklddaaBase
import Derived.Test.YtmbemlpmfklddaaPFramesTellx1
namespace Go.Proofs.Ytmbemlpmfklddaa.Own
open Go.RowKit Go.Proofs.YtmbemlpmfklddaaW.PrintWords Go.Proofs.YtmbemlpmfklddaaW.PrintLast Go.Proofs.YtmbemlpmfklddaaW.PrintMore

def polyV : BitVec 32 := 0x04C11DB7#32
def zV (s : BitVec 32) : BitVec 32 := (s <<< 1) ^^^ (if s.msb then polyV else 0#32)
def z8 (s : BitVec 32) : BitVec 32 := zV (zV (zV (zV (zV (zV (zV (zV s)))))))
def crcV (s : BitVec 32) (l : List Int) : BitVec 32 := l.foldl (fun s c => z8 (s ^^^ (BitVec.ofInt 32 c <<< 24))) s

theorem wrap_u32_nat (n : Nat) (h : n < 2 ^ 32) : IntKind.u32.wrap (n : Int) = n := by
  rw [IntKind.wrap_u32]; omega
theorem xor_v (x y : Int) : Go.bits .xor .u32 x y = ((BitVec.ofInt 32 x ^^^ BitVec.ofInt 32 y).toNat : Int) := by
  show IntKind.u32.wrap _ = _
  exact wrap_u32_nat _ (BitVec.isLt _)
theorem ofInt_toNat (s : BitVec 32) : BitVec.ofInt 32 (s.toNat : Int) = s := by
  rw [BitVec.ofInt_natCast, BitVec.ofNat_toNat, BitVec.setWidth_eq]
theorem step_v (s : BitVec 32) : crcStep (s.toNat : Int) = ((zV s).toNat : Int) := by
  have hs := s.isLt
  have hm : s.msb = decide (2147483648 ≤ s.toNat) := by rw [BitVec.msb_eq_decide]
  have h2 : ∀ x y : Int, x = s.toNat → y = (s <<< 1).toNat → x * 2 % 4294967296 = y := by
    intro x y hx hy
    subst hx hy
    rw [BitVec.toNat_shiftLeft, Nat.shiftLeft_eq]
    omega
  unfold crcStep zV
  by_cases h : 2147483648 ≤ s.toNat
  · rw [if_pos (by omega), h2 _ _ rfl rfl, xor_v, ofInt_toNat, hm, decide_eq_true h]
    rfl
  · rw [if_neg (by omega), h2 _ _ rfl rfl, hm, decide_eq_false h]
    simp
theorem byte_v (s : BitVec 32) (c : Int) : crcByte (s.toNat : Int) c = ((z8 (s ^^^ (BitVec.ofInt 32 c <<< 24))).toNat : Int) := by
  have hc : BitVec.ofInt 32 ((c % 4294967296 * 16777216) % 4294967296) = BitVec.ofInt 32 c <<< 24 := by
    apply BitVec.eq_of_toNat_eq
    rw [BitVec.toNat_ofInt, BitVec.toNat_shiftLeft, BitVec.toNat_ofInt, Nat.shiftLeft_eq]
    have : (2 : Int) ^ 32 = 4294967296 := by decide
    simp only [Nat.reducePow]
    omega
  unfold crcByte z8
  rw [xor_v, ofInt_toNat, hc]
  simp only [step_v]
theorem st_v (l : List Int) : ∀ s : BitVec 32, crcSt (s.toNat : Int) l = ((crcV s l).toNat : Int) := by
  induction l with
  | nil => intro s; rfl
  | cons c l ih =>
    intro s
    simp only [crcSt, crcV, List.foldl_cons, byte_v] at ih ⊢
    exact ih _
theorem of_v (l : List Int) : crcOf l = ((crcV (BitVec.allOnes 32) l ^^^ BitVec.allOnes 32).toNat : Int) := by
  unfold crcOf
  rw [xor_v, show (4294967295 : Int) = ((BitVec.allOnes 32).toNat : Int) by decide, st_v, ofInt_toNat, ofInt_toNat]
theorem of_range (l : List Int) : 0 ≤ crcOf l ∧ crcOf l < 4294967296 := by
  rw [of_v]
  have := (crcV (BitVec.allOnes 32) l ^^^ BitVec.allOnes 32).isLt
  omega

/-! The reference: the same sum, reckoned with 64 bits. -/
theorem wrap_u64 (n : Int) : IntKind.u64.wrap n = n % 18446744073709551616 := by simp [IntKind.wrap, IntKind.bits, IntKind.signed]
theorem xor_u64 (x y : Nat) (hx : x < 2 ^ 32) (hy : y < 2 ^ 32) : Go.bits .xor .u64 (x : Int) (y : Int) = ((BitVec.ofNat 32 x ^^^ BitVec.ofNat 32 y).toNat : Int) := by
  show IntKind.u64.wrap _ = _
  rw [wrap_u64, BitVec.ofInt_natCast, BitVec.ofInt_natCast]
  have h1 : (BitVec.ofNat IntKind.u64.bits x ^^^ BitVec.ofNat IntKind.u64.bits y).toNat = x ^^^ y := by
    rw [BitVec.toNat_xor, BitVec.toNat_ofNat, BitVec.toNat_ofNat, Nat.mod_eq_of_lt, Nat.mod_eq_of_lt]
    · exact Nat.lt_of_lt_of_le hy (by decide)
    · exact Nat.lt_of_lt_of_le hx (by decide)
  have h2 : (BitVec.ofNat 32 x ^^^ BitVec.ofNat 32 y).toNat = x ^^^ y := by
    rw [BitVec.toNat_xor, BitVec.toNat_ofNat, BitVec.toNat_ofNat, Nat.mod_eq_of_lt hx, Nat.mod_eq_of_lt hy]
  have h3 : x ^^^ y < 2 ^ 32 := Nat.xor_lt_two_pow hx hy
  simp only [h1, h2]
  omega
open PFramesTell in
theorem ref_l1_step (k : Nat) (l : List Int) (x : BitVec 32) (i j : Int) (h0 : 0 ≤ j) (h : j < 8) : trugref01_Of.l1 (k + 1) l (x.toNat : Int) i j = trugref01_Of.l1 k l ((zV x).toNat : Int) i (j + 1) := by
  have hx := x.isLt
  have hw : wrap64 (j + 1) = j + 1 := by unfold wrap64; omega
  have hm : x.msb = decide (2147483648 ≤ x.toNat) := by rw [BitVec.msb_eq_decide]
  have h2 : IntKind.u64.wrap (2 * (x.toNat : Int)) = 2 * (x.toNat : Int) := by rw [wrap_u64]; omega
  have hsh : (x <<< 1).toNat = x.toNat * 2 % 4294967296 := by rw [BitVec.toNat_shiftLeft, Nat.shiftLeft_eq]
  simp only [trugref01_Of.l1, h2, hw]
  rw [if_pos h]
  unfold zV
  by_cases hb : 2147483648 ≤ x.toNat
  · have h3 : IntKind.u64.wrap (2 * (x.toNat : Int) - 4294967296) = ((x <<< 1).toNat : Int) := by rw [wrap_u64, hsh]; omega
    rw [if_pos (by omega), h3, hm, decide_eq_true hb, show (79764919 : Int) = ((79764919 : Nat) : Int) from rfl, xor_u64 _ _ (BitVec.isLt _) (by decide), BitVec.ofNat_toNat, BitVec.setWidth_eq]
    rfl
  · rw [if_neg (by omega), hm, decide_eq_false hb]
    have h4 : ((2 : Int) * (x.toNat : Int)) = ((x <<< 1).toNat : Int) := by rw [hsh]; omega
    rw [h4]
    simp
open PFramesTell in
theorem ref_l1 (k : Nat) (l : List Int) (x : BitVec 32) (i : Int) : trugref01_Of.l1 (k + 9) l (x.toNat : Int) i 0 = trugref01_Of.l0 k l ((z8 x).toNat : Int) (wrap64 (i + 1)) := by
  rw [ref_l1_step _ _ _ _ _ (by omega) (by omega), ref_l1_step _ _ _ _ _ (by omega) (by omega), ref_l1_step _ _ _ _ _ (by omega) (by omega), ref_l1_step _ _ _ _ _ (by omega) (by omega), ref_l1_step _ _ _ _ _ (by omega) (by omega), ref_l1_step _ _ _ _ _ (by omega) (by omega), ref_l1_step _ _ _ _ _ (by omega) (by omega), ref_l1_step _ _ _ _ _ (by omega) (by omega)]
  obtain ⟨n, hn⟩ : ∃ n, n = k := ⟨_, rfl⟩
  rw [← hn]
  simp only [trugref01_Of.l1]
  rw [if_neg (by omega)]
  rfl
open PFramesTell in
theorem ref_l0 (l : List Int) (hl : l.length ≤ 9223372036854775807) (hb : ∀ x ∈ l, 0 ≤ x ∧ x < 256) (d : Nat) : ∀ (s : BitVec 32) (i : Int), 0 ≤ i → i + d = l.length →
    ∃ k0, ∀ k, k0 ≤ k → trugref01_Of.l0 k l (s.toNat : Int) i = some ((crcV s (l.drop i.toNat) ^^^ BitVec.allOnes 32).toNat : Int) := by
  induction d with
  | zero =>
    intro s i h0 hd
    refine ⟨1, fun k hk => ?_⟩
    obtain ⟨k, rfl⟩ : ∃ m, k = m + 1 := ⟨k - 1, by omega⟩
    have : l.drop i.toNat = [] := List.drop_eq_nil_of_le (by omega)
    rw [this]
    simp only [trugref01_Of.l0]
    rw [if_neg (by omega)]
    have hs := s.isLt
    have hx : (crcV s [] ^^^ BitVec.allOnes 32).toNat = 4294967295 - s.toNat := by
      show (s ^^^ BitVec.allOnes 32).toNat = _
      rw [BitVec.xor_allOnes, BitVec.toNat_not]
    rw [hx, wrap_u64]
    congr 1
    omega
  | succ d ih =>
    intro s i h0 hd
    have hi : i.toNat < l.length := by omega
    have hw : wrap64 (i + 1) = i + 1 := by unfold wrap64; omega
    have hrd : rd l i = l[i.toNat] := by simp [rd, List.getD_eq_getElem?_getD, List.getElem?_eq_getElem hi]
    obtain ⟨hb0, hb1⟩ := hb _ (List.getElem_mem hi)
    obtain ⟨c, hc⟩ := Int.eq_ofNat_of_zero_le hb0
    have hc1 : c < 256 := by rw [hc] at hb1; omega
    obtain ⟨k1, hk1⟩ := ih (z8 (s ^^^ (BitVec.ofInt 32 l[i.toNat] <<< 24))) (i + 1) (by omega) (by omega)
    refine ⟨k1 + 10, fun k hk => ?_⟩
    obtain ⟨m, hm⟩ : ∃ m, k = m + 9 + 1 := ⟨k - 10, by omega⟩
    obtain ⟨n, hn⟩ : ∃ n, n = m + 9 := ⟨_, rfl⟩
    rw [hm, ← hn]
    simp only [trugref01_Of.l0]
    rw [if_pos (by omega), if_pos (by omega), hrd]
    have e1 : IntKind.u64.wrap (16777216 * IntKind.u64.wrap l[i.toNat]) = ((16777216 * c : Nat) : Int) := by
      rw [hc, wrap_u64, wrap_u64]; omega
    rw [e1, xor_u64 _ _ (BitVec.isLt _) (by omega), BitVec.ofNat_toNat, BitVec.setWidth_eq, hn, ref_l1, hw]
    have e2 : BitVec.ofNat 32 (16777216 * c) = BitVec.ofInt 32 l[i.toNat] <<< 24 := by
      rw [hc]
      apply BitVec.eq_of_toNat_eq
      rw [BitVec.toNat_ofNat, BitVec.toNat_shiftLeft, BitVec.ofInt_natCast, BitVec.toNat_ofNat, Nat.shiftLeft_eq]
      omega
    rw [e2, hk1 m (by omega), List.drop_eq_getElem_cons hi, show (i + 1).toNat = i.toNat + 1 by omega]
    rfl
open PFramesTell in
theorem ref_f (l : List Int) (hl : l.length ≤ 9223372036854775807) (hb : ∀ x ∈ l, 0 ≤ x ∧ x < 256) : ∃ k, trugref01_Of.f k l = some (crcOf l) := by
  obtain ⟨k0, h⟩ := ref_l0 l hl hb l.length (BitVec.allOnes 32) 0 (by omega) (by omega)
  refine ⟨k0, ?_⟩
  rw [of_v]
  exact h k0 (Nat.le_refl _)
/-- The reference tells the same sum, of bytes. -/
theorem Ref_calls (A : Option Addr) (c : Nat) (l : List Int) (w : World) (h : (Kd.int .u8).C w A l.length l) (hc : l.length ≤ c) (hb : ∀ x ∈ l, 0 ≤ x ∧ x < 256) :
    Calls Try.prog 18 #[.slice A l.length c] w fun e w' => e = .returned (.int .u32 (crcOf l)) ∧ Drawn0 w w' := by
  obtain ⟨k, hk⟩ := ref_f l h.2.1 hb
  exact PFramesTell.trugref01_Of.calls k A c l _ w h hc hk
end Go.Proofs.Ytmbemlpmfklddaa.Own
