/- Bits that are turned within 32 side by side turn the sum: the plain law. -/
import Derived.Test.YtmbemlpmfklddaaBits
namespace Go.Proofs.Ytmbemlpmfklddaa.Own
open Go.RowKit Go.Proofs.YtmbemlpmfklddaaW.PrintWords
def flip (p : Nat) (y : Int) (c : List Int) (k : Nat) : List Int :=
  if Go.bits .and .u32 (y / 2 ^ k) 1 = 1 then c.set ((p + k) / 8) (Go.bits .xor .u8 (rd c (((p + k) / 8 : Nat) : Int)) (128 / 2 ^ ((p + k) % 8))) else c
def flips (p : Nat) (y : Int) (l : List Int) : Nat → List Int
  | 0 => l
  | k + 1 => flip p y (flips p y l k) k
theorem flip_length (p : Nat) (y : Int) (c : List Int) (k : Nat) : (flip p y c k).length = c.length := by
  unfold flip; split <;> simp
theorem flips_length (p : Nat) (y : Int) (l : List Int) (k : Nat) : (flips p y l k).length = l.length := by
  induction k with
  | zero => rfl
  | succ k ih => rw [flips, flip_length, ih]

def ybit (y : Int) (k : Nat) : Bool := decide (Go.bits .and .u32 (y / 2 ^ k) 1 = 1)
theorem ybit_nat (n k : Nat) (h : n < 2 ^ 32) : ybit (n : Int) k = n.testBit k := by
  unfold ybit
  have e : (n : Int) / 2 ^ k = ((n / 2 ^ k : Nat) : Int) := by simp
  have hl : n / 2 ^ k < 2 ^ 32 := Nat.lt_of_le_of_lt (Nat.div_le_self _ _) h
  rw [e, show (1 : Int) = ((1 : Nat) : Int) from rfl, (bits_nat .u32 32 (Nat.le_refl _) (fun n h0 h1 => by rw [IntKind.wrap_u32]; omega) (n / 2 ^ k) 1 hl (by decide)).1, Nat.and_one_is_mod, Nat.testBit_eq_decide_div_mod_eq]
  congr 1
  apply propext
  omega
theorem ybit_some (y : Int) (h0 : 0 ≤ y) (h1 : y < 4294967296) (hy : y ≠ 0) : ∃ t, t < 32 ∧ ybit y t = true := by
  obtain ⟨n, rfl⟩ := Int.eq_ofNat_of_zero_le h0
  have hn : n < 2 ^ 32 := by omega
  apply Classical.byContradiction
  intro hno
  apply hy
  have : n = 0 := by
    apply Nat.eq_of_testBit_eq
    intro i
    rw [Nat.zero_testBit]
    rcases Nat.lt_or_ge i 32 with hi | hi
    · cases hb : n.testBit i with
      | false => rfl
      | true => exact absurd ⟨i, hi, (ybit_nat n i hn).trans hb⟩ hno
    · exact Nat.testBit_lt_two_pow (Nat.lt_of_lt_of_le hn (Nat.pow_le_pow_right (by decide) hi))
  rw [this]
  rfl
theorem flip_bits (p : Nat) (y : Int) (c : List Int) (k : Nat) (hb : ∀ x ∈ c, 0 ≤ x ∧ x < 256) (h : p + k < 8 * c.length) :
    bitsL (flip p y c k) = (bitsL c).set (p + k) (((bitsL c).getD (p + k) false) ^^ ybit y k) ∧ ∀ x ∈ flip p y c k, 0 ≤ x ∧ x < 256 := by
  unfold flip ybit
  by_cases hq : Go.bits .and .u32 (y / 2 ^ k) 1 = 1
  · rw [if_pos hq, decide_eq_true hq]
    obtain ⟨h1, h2⟩ := bits_flip c hb (p + k) h
    refine ⟨?_, h2⟩
    rw [h1, Bool.xor_true]
  · rw [if_neg hq, decide_eq_false hq]
    refine ⟨?_, hb⟩
    rw [Bool.xor_false]
    apply List.ext_getElem?
    intro i
    rw [List.getElem?_set]
    split
    · rename_i he
      subst he
      rw [bitsL_length, if_pos h, List.getD_eq_getElem?_getD, List.getElem?_eq_getElem (by rw [bitsL_length]; exact h)]
      rfl
    · rfl
theorem flips_bits (p : Nat) (y : Int) (l : List Int) (hb : ∀ x ∈ l, 0 ≤ x ∧ x < 256) (k : Nat) (h : p + k ≤ 8 * l.length) :
    (∀ i, i < 8 * l.length → (bitsL (flips p y l k)).getD i false = ((bitsL l).getD i false ^^ (decide (p ≤ i) && decide (i < p + k) && ybit y (i - p)))) ∧ ∀ x ∈ flips p y l k, 0 ≤ x ∧ x < 256 := by
  induction k with
  | zero =>
    refine ⟨fun i _ => ?_, hb⟩
    have : (decide (p ≤ i) && decide (i < p + 0)) = false := by
      by_cases h1 : p ≤ i
      · simp
      · simp [h1]
    rw [this]
    simp [flips]
  | succ k ih =>
    obtain ⟨h1, h2⟩ := ih (by omega)
    obtain ⟨g1, g2⟩ := flip_bits p y (flips p y l k) k h2 (by rw [flips_length]; omega)
    refine ⟨fun i hi => ?_, g2⟩
    rw [flips, g1, List.getD_eq_getElem?_getD, List.getElem?_set, bitsL_length, flips_length]
    by_cases he : p + k = i
    · subst he
      rw [if_pos rfl, if_pos hi, h1 _ hi, Option.getD_some]
      have e1 : (decide (p ≤ p + k) && decide (p + k < p + k)) = false := by simp
      have e2 : (decide (p ≤ p + k) && decide (p + k < p + (k + 1))) = true := by simp
      rw [e1, e2, show p + k - p = k by omega]
      simp
    · rw [if_neg he, ← List.getD_eq_getElem?_getD, h1 i hi]
      have e3 : (decide (i < p + k)) = decide (i < p + (k + 1)) := by
        congr 1
        apply propext
        omega
      rw [e3]
theorem getD_take_drop {B : List Bool} {a n i : Nat} (hi : i < n) : ((B.drop a).take n).getD i false = B.getD (a + i) false := by
  rw [List.getD_eq_getElem?_getD, List.getD_eq_getElem?_getD, List.getElem?_take, if_pos hi, List.getElem?_drop]
theorem ext_getD {a b : List Bool} (hl : a.length = b.length) (h : ∀ i, i < a.length → a.getD i false = b.getD i false) : a = b := by
  apply List.ext_getElem hl
  intro i h1 h2
  have := h i h1
  rw [List.getD_eq_getElem?_getD, List.getD_eq_getElem?_getD, List.getElem?_eq_getElem h1, List.getElem?_eq_getElem h2] at this
  simpa using this
/-- Bits that are turned within 32 side by side turn the sum. -/
theorem bursts_ne (l : List Int) (hb : ∀ x ∈ l, 0 ≤ x ∧ x < 256) (p : Nat) (y : Int) (h0 : 0 ≤ y) (h1 : y < 4294967296) (hy : y ≠ 0) (h : p + 32 ≤ 8 * l.length) : crcOf l ≠ crcOf (flips p y l 32) := by
  intro he
  obtain ⟨g1, g2⟩ := flips_bits p y l hb 32 h
  rw [of_v, of_v] at he
  have he2 : crcV (BitVec.allOnes 32) l = crcV (BitVec.allOnes 32) (flips p y l 32) := by
    have e1 : (crcV (BitVec.allOnes 32) l ^^^ BitVec.allOnes 32).toNat = (crcV (BitVec.allOnes 32) (flips p y l 32) ^^^ BitVec.allOnes 32).toNat := by omega
    have e2 := BitVec.eq_of_toNat_eq e1
    have e3 := congrArg (· ^^^ BitVec.allOnes 32) e2
    simpa [BitVec.xor_assoc] using e3
  rw [crc_feed l hb, crc_feed _ g2] at he2
  have hB : (bitsL l).length = 8 * l.length := bitsL_length l
  have hB' : (bitsL (flips p y l 32)).length = 8 * l.length := by rw [bitsL_length, flips_length]
  generalize bitsL (flips p y l 32) = B' at *
  generalize bitsL l = B at *
  have sp : ∀ X : List Bool, X = X.take p ++ ((X.drop p).take 32 ++ X.drop (p + 32)) := by
    intro X
    rw [← List.drop_drop, List.take_append_drop, List.take_append_drop]
  rw [sp B, sp B', feed_append, feed_append, feed_append, feed_append] at he2
  have ha : B.take p = B'.take p := by
    apply ext_getD
    · rw [List.length_take, List.length_take, hB, hB']
    · intro i hi
      rw [List.length_take] at hi
      have e1 : (decide (p ≤ i) && decide (i < p + 32)) = false := by simp; omega
      have := g1 i (by omega)
      rw [e1, Bool.false_and, Bool.xor_false] at this
      rw [List.getD_eq_getElem?_getD, List.getD_eq_getElem?_getD, List.getElem?_take, List.getElem?_take, if_pos (by omega), if_pos (by omega), ← List.getD_eq_getElem?_getD, ← List.getD_eq_getElem?_getD]
      exact this.symm
  have hz : B.drop (p + 32) = B'.drop (p + 32) := by
    apply ext_getD
    · rw [List.length_drop, List.length_drop, hB, hB']
    · intro i hi
      rw [List.length_drop] at hi
      have e1 : (decide (p ≤ p + 32 + i) && decide (p + 32 + i < p + 32)) = false := by simp
      have := g1 (p + 32 + i) (by omega)
      rw [e1, Bool.false_and, Bool.xor_false] at this
      rw [List.getD_eq_getElem?_getD, List.getD_eq_getElem?_getD, List.getElem?_drop, List.getElem?_drop, ← List.getD_eq_getElem?_getD, ← List.getD_eq_getElem?_getD]
      exact this.symm
  rw [← ha, ← hz] at he2
  have he3 := feed_inj _ he2
  have hm := feed_window (by rw [List.length_take, List.length_take, List.length_drop, List.length_drop, hB, hB']) (by rw [List.length_take]; omega) he3
  obtain ⟨t, ht, hbt⟩ := ybit_some y h0 h1 hy
  have e1 := congrArg (fun X : List Bool => X.getD t false) hm
  simp only [getD_take_drop ht] at e1
  have e2 := g1 (p + t) (by omega)
  have e3 : (decide (p ≤ p + t) && decide (p + t < p + 32)) = true := by simp; omega
  rw [e3, show p + t - p = t by omega, hbt, ← e1] at e2
  cases B.getD (p + t) false <;> simp at e2
end Go.Proofs.Ytmbemlpmfklddaa.Own
