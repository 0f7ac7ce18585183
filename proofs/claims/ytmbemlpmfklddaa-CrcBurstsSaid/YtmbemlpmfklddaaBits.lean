/- The sum of bits side by side: plain laws on bit vectors and lists. -/
import Derived.Test.YtmbemlpmfklddaaCrcV
namespace Go.Proofs.Ytmbemlpmfklddaa.Own
open Go.RowKit Go.Proofs.YtmbemlpmfklddaaW.PrintWords
/-! The sum, bit by bit. -/
def top (b : Bool) : BitVec 32 := if b then 0x80000000#32 else 0#32
def feed (s : BitVec 32) (bs : List Bool) : BitVec 32 := bs.foldl (fun s b => zV (s ^^^ top b)) s
def ziter : Nat → BitVec 32 → BitVec 32
  | 0, s => s
  | n + 1, s => ziter n (zV s)
def mV : List Bool → BitVec 32
  | [] => 0#32
  | b :: bs => top b ^^^ (mV bs >>> 1)

theorem z_xor (a b : BitVec 32) : zV (a ^^^ b) = zV a ^^^ zV b := by
  unfold zV
  rw [BitVec.shiftLeft_xor_distrib, BitVec.msb_xor]
  have e : ∀ x y z u : BitVec 32, (x ^^^ y) ^^^ (z ^^^ u) = (x ^^^ z) ^^^ (y ^^^ u) := by intros; ac_rfl
  rw [e]
  cases a.msb <;> cases b.msb <;> simp
theorem z_zero : zV 0#32 = 0#32 := by decide
theorem z_inj0 (s : BitVec 32) (h : zV s = 0#32) : s = 0#32 := by
  unfold zV at h
  have h0 := congrArg (fun x : BitVec 32 => x.getLsbD 0) h
  have hm : s.msb = false := by
    cases hs : s.msb with
    | false => rfl
    | true =>
      rw [hs] at h0
      simp [polyV] at h0
  rw [hm] at h
  simp at h
  apply BitVec.eq_of_getLsbD_eq
  intro i hi
  rcases Nat.lt_or_ge i 31 with h1 | h1
  · have := congrArg (fun x : BitVec 32 => x.getLsbD (i + 1)) h
    simp [show i + 1 < 32 by omega] at this
    rw [BitVec.getLsbD_eq_getElem (by omega)]
    simpa using this
  · have : i = 31 := by omega
    subst this
    rw [BitVec.msb_eq_getLsbD_last] at hm
    simpa using hm
theorem z_inj {a b : BitVec 32} (h : zV a = zV b) : a = b := by
  have : zV (a ^^^ b) = 0#32 := by rw [z_xor, h, BitVec.xor_self]
  have := z_inj0 _ this
  exact BitVec.xor_eq_zero_iff.1 this
theorem feed_inj (bs : List Bool) : ∀ {s t : BitVec 32}, feed s bs = feed t bs → s = t := by
  induction bs with
  | nil => intro s t h; exact h
  | cons b bs ih =>
    intro s t h
    have := z_inj (ih h)
    have h2 := congrArg (· ^^^ top b) this
    simpa [BitVec.xor_assoc] using h2
theorem ziter_inj (n : Nat) : ∀ {s t : BitVec 32}, ziter n s = ziter n t → s = t := by
  induction n with
  | zero => intro s t h; exact h
  | succ n ih => intro s t h; exact z_inj (ih h)
theorem mV_get (bs : List Bool) : ∀ j, j < 32 → (mV bs).getLsbD j = bs.getD (31 - j) false := by
  induction bs with
  | nil => intro j _; simp [mV]
  | cons b bs ih =>
    intro j hj
    simp only [mV, BitVec.getLsbD_xor, BitVec.getLsbD_ushiftRight]
    rcases Nat.lt_or_ge j 31 with h | h
    · have ht : (top b).getLsbD j = false := by
        unfold top
        cases b
        · simp
        · have : ∀ i : Fin 31, (0x80000000#32).getLsbD i = false := by decide
          exact this ⟨j, h⟩
      rw [ht, Bool.false_xor, Nat.add_comm 1 j, ih (j + 1) (by omega), show 31 - j = (31 - (j + 1)) + 1 by omega, List.getD_cons_succ]
    · have : j = 31 := by omega
      subst this
      have h32 : (mV bs).getLsbD (1 + 31) = false := BitVec.getLsbD_of_ge _ _ (by omega)
      rw [h32, Bool.xor_false]
      unfold top
      cases b <;> simp
theorem z_shift (x : BitVec 32) (h : x.getLsbD 0 = false) : zV (x >>> 1) = x := by
  unfold zV
  have hm : (x >>> 1).msb = false := by
    rw [BitVec.msb_eq_getLsbD_last]
    simp
  rw [hm]
  simp
  apply BitVec.eq_of_getLsbD_eq
  intro i hi
  rcases i with _ | i
  · simpa using h.symm
  · simp [hi, Nat.add_comm]
theorem feed_m (bs : List Bool) : ∀ s : BitVec 32, bs.length ≤ 32 → feed s bs = ziter bs.length (s ^^^ mV bs) := by
  induction bs with
  | nil => intro s _; simp [feed, ziter, mV]
  | cons b bs ih =>
    intro s h
    have h' : bs.length ≤ 31 := by simpa using h
    show feed (zV (s ^^^ top b)) bs = ziter bs.length (zV (s ^^^ (top b ^^^ (mV bs >>> 1))))
    rw [ih _ (by omega), ← BitVec.xor_assoc, z_xor (s ^^^ top b), z_shift]
    rw [mV_get bs 0 (by omega)]
    simp [List.getD_eq_getElem?_getD, List.getElem?_eq_none (show bs.length ≤ 31 from h')]
/-- Within 32 bits side by side the sum tells. -/
theorem feed_window {s : BitVec 32} {m m' : List Bool} (hl : m.length = m'.length) (h : m.length ≤ 32) (he : feed s m = feed s m') : m = m' := by
  rw [feed_m _ _ h, feed_m _ _ (by omega), ← hl] at he
  have h1 := ziter_inj _ he
  have h2 := congrArg (s ^^^ ·) h1
  have h3 : mV m = mV m' := by simpa [← BitVec.xor_assoc] using h2
  apply List.ext_getElem hl
  intro i h1 h2
  have g := mV_get m (31 - i) (by omega)
  have g' := mV_get m' (31 - i) (by omega)
  rw [show 31 - (31 - i) = i by omega, List.getD_eq_getElem?_getD, List.getElem?_eq_getElem h1] at g
  rw [show 31 - (31 - i) = i by omega, List.getD_eq_getElem?_getD, List.getElem?_eq_getElem h2] at g'
  rw [h3] at g
  simpa using g.symm.trans g'
def byteBits (c : Nat) : List Bool := [c.testBit 7, c.testBit 6, c.testBit 5, c.testBit 4, c.testBit 3, c.testBit 2, c.testBit 1, c.testBit 0]
def bitsL (l : List Int) : List Bool := l.flatMap fun c => byteBits c.toNat
theorem mV_byte : ∀ c : Fin 256, mV (byteBits c) = BitVec.ofNat 32 c <<< 24 := by decide +kernel
theorem ziter8 (s : BitVec 32) : ziter 8 s = z8 s := rfl
theorem feed_byte (s : BitVec 32) (c : Int) (h0 : 0 ≤ c) (h1 : c < 256) : z8 (s ^^^ (BitVec.ofInt 32 c <<< 24)) = feed s (byteBits c.toNat) := by
  obtain ⟨n, rfl⟩ := Int.eq_ofNat_of_zero_le h0
  rw [feed_m _ _ (by simp [byteBits]), show (byteBits (n : Int).toNat).length = 8 from rfl, ziter8, Int.toNat_natCast, mV_byte ⟨n, by omega⟩, BitVec.ofInt_natCast]
theorem feed_append (s : BitVec 32) (a b : List Bool) : feed s (a ++ b) = feed (feed s a) b := by simp [feed]
theorem crc_feed (l : List Int) (h : ∀ x ∈ l, 0 ≤ x ∧ x < 256) : ∀ s : BitVec 32, crcV s l = feed s (bitsL l) := by
  induction l with
  | nil => intro s; rfl
  | cons c l ih =>
    intro s
    obtain ⟨h0, h1⟩ := h c (by simp)
    show crcV (z8 (s ^^^ (BitVec.ofInt 32 c <<< 24))) l = feed s (byteBits c.toNat ++ bitsL l)
    rw [feed_append, ← feed_byte s c h0 h1]
    exact ih (fun x hx => h x (List.mem_cons_of_mem _ hx)) _

theorem bitsL_append (a b : List Int) : bitsL (a ++ b) = bitsL a ++ bitsL b := by simp [bitsL]
theorem bitsL_length (l : List Int) : (bitsL l).length = 8 * l.length := by
  induction l with
  | nil => rfl
  | cons c l ih =>
    show (byteBits c.toNat ++ bitsL l).length = _
    rw [List.length_append, ih, show (byteBits c.toNat).length = 8 from rfl, List.length_cons]
    omega
theorem byte_flip : ∀ c : Fin 256, ∀ r : Fin 8, byteBits (c.val ^^^ (128 / 2 ^ r.val)) = (byteBits c.val).set r.val (!((byteBits c.val).getD r.val false)) := by decide +kernel
theorem xor_u8 (x y : Nat) (hx : x < 256) (hy : y < 256) : Go.bits .xor .u8 (x : Int) (y : Int) = ((x ^^^ y : Nat) : Int) := by
  show IntKind.u8.wrap _ = _
  rw [IntKind.wrap_u8, BitVec.ofInt_natCast, BitVec.ofInt_natCast]
  have h1 : (BitVec.ofNat IntKind.u8.bits x ^^^ BitVec.ofNat IntKind.u8.bits y).toNat = x ^^^ y := by
    rw [BitVec.toNat_xor, BitVec.toNat_ofNat, BitVec.toNat_ofNat, Nat.mod_eq_of_lt, Nat.mod_eq_of_lt]
    · exact hy
    · exact hx
  have h3 : x ^^^ y < 2 ^ 8 := Nat.xor_lt_two_pow (n := 8) hx hy
  simp only [h1]
  omega
/-- One bit turned: the bytes' bits. -/
theorem bits_flip (l : List Int) (hb : ∀ x ∈ l, 0 ≤ x ∧ x < 256) (q : Nat) (hq : q < 8 * l.length) :
    bitsL (l.set (q / 8) (Go.bits .xor .u8 (rd l ((q / 8 : Nat) : Int)) (128 / 2 ^ (q % 8)))) = (bitsL l).set q (!((bitsL l).getD q false)) ∧
    ∀ x ∈ l.set (q / 8) (Go.bits .xor .u8 (rd l ((q / 8 : Nat) : Int)) (128 / 2 ^ (q % 8))), 0 ≤ x ∧ x < 256 := by
  have hj : q / 8 < l.length := by omega
  obtain ⟨j, hjq⟩ : ∃ j, j = q / 8 := ⟨_, rfl⟩
  rw [← hjq] at hj ⊢
  have hrd : rd l (j : Int) = l[j] := by simp [rd, List.getD_eq_getElem?_getD, List.getElem?_eq_getElem hj]
  obtain ⟨h0, h1⟩ := hb _ (List.getElem_mem hj)
  obtain ⟨c, hc⟩ := Int.eq_ofNat_of_zero_le h0
  have hc1 : c < 256 := by rw [hc] at h1; omega
  have hr : q % 8 < 8 := Nat.mod_lt _ (by decide)
  have hp : (128 : Int) / 2 ^ (q % 8) = ((128 / 2 ^ (q % 8) : Nat) : Int) := by simp
  have hp2 : 128 / 2 ^ (q % 8) < 256 := Nat.lt_of_le_of_lt (Nat.div_le_self _ _) (by decide)
  have hx3 : c ^^^ (128 / 2 ^ (q % 8)) < 2 ^ 8 := Nat.xor_lt_two_pow (n := 8) hc1 hp2
  rw [hrd, hc, hp, xor_u8 _ _ hc1 hp2]
  have hsplit : l = l.take j ++ l[j] :: l.drop (j + 1) := by rw [← List.drop_eq_getElem_cons hj, List.take_append_drop]
  have hset : l.set j ((c ^^^ (128 / 2 ^ (q % 8)) : Nat) : Int) = l.take j ++ ((c ^^^ (128 / 2 ^ (q % 8)) : Nat) : Int) :: l.drop (j + 1) := List.set_eq_take_append_cons_drop .. |>.trans (by rw [if_pos hj])
  have hlt : (bitsL (l.take j)).length = 8 * j := by rw [bitsL_length, List.length_take]; omega
  have hbit : bitsL l = bitsL (l.take j) ++ (byteBits c ++ bitsL (l.drop (j + 1))) := by
    conv => lhs; rw [hsplit]
    rw [bitsL_append]
    show _ ++ (byteBits (l[j]).toNat ++ _) = _
    rw [hc]
    rfl
  have hbl : (byteBits c).length = 8 := rfl
  constructor
  · rw [hset, bitsL_append, hbit]
    show _ ++ (byteBits ((c ^^^ (128 / 2 ^ (q % 8)) : Nat) : Int).toNat ++ _) = _
    rw [Int.toNat_natCast, byte_flip ⟨c, hc1⟩ ⟨q % 8, hr⟩, List.set_append_right _ _ (by omega), hlt, List.set_append_left _ _ (by omega), show q - 8 * j = q % 8 by omega]
    congr 3
    rw [List.getD_eq_getElem?_getD, List.getD_eq_getElem?_getD, List.getElem?_append_right (by omega), List.getElem?_append_left (by omega), hlt, show q - 8 * j = q % 8 by omega]
  · intro x hx
    rcases List.mem_or_eq_of_mem_set hx with h | h
    · exact hb x h
    · subst h
      omega
end Go.Proofs.Ytmbemlpmfklddaa.Own
