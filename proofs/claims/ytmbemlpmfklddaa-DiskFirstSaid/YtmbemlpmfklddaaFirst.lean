/- Of two disks: writes on one, byte by byte on the other, as far as a crash lets them. Plain lists. -/
import Derived.Test.YtmbemlpmfklddaaDm
namespace Go.Proofs.Ytmbemlpmfklddaa.Own
open Go.RowKit
/-- What holds of both disks when the a-disk has q0, and k more bytes of a write were told: the b-disk has the first bytes. -/
structure First (last : Int) (P : List (Nat × Int)) (a b : Dm) (left : Int) (m : Nat) : Prop where
  oka : a.Ok
  okb : b.Ok
  la : a.b.length = 300
  same : b.b = a.b
  pd : pend b.q = P.take last.toNat
  lf : left = last - (pend b.q).length
  qa : a.q.length ≤ m
  qb : b.q.length ≤ m * 500
theorem pend_one (p x : Int) : pend [(p, [x])] = [(p.toNat, x)] := by simp [pend, pendOf]
theorem pend_write (d : Dm) (p : Int) (l : List Int) : pend (d.write p l).q = pend d.q ++ pendOf (p, l) := by
  simp [Dm.write, pend]
namespace First
variable {last left : Int} {P : List (Nat × Int)} {a b : Dm} {m : Nat}
theorem range (h : First last P a b left m) (h1 : -9223372036854775808 ≤ last) (h2 : last ≤ 9223372036854775807) : -9223372036854775808 ≤ left ∧ left ≤ 9223372036854775807 := by
  have := h.lf
  have h3 : (pend b.q).length ≤ last.toNat := by rw [h.pd, List.length_take]; omega
  omega
theorem start (last : Int) : First last (pend (Dm.new 300).q) (Dm.new 300) (Dm.new 300) last 0 :=
  ⟨Dm.ok_new (by decide) (by decide), Dm.ok_new (by decide) (by decide), List.length_replicate, rfl, (by rw [show pend (Dm.new 300).q = [] from rfl, List.take_nil]), (Int.sub_zero last).symm, Nat.le_refl 0, Nat.zero_le _⟩
theorem more (h : First last P a b left m) : First last P a b left (m + 1) :=
  ⟨h.oka, h.okb, h.la, h.same, h.pd, h.lf, by have := h.qa; omega, Nat.le_trans h.qb (Nat.mul_le_mul_right 500 (Nat.le_succ m))⟩
/-- One byte more. -/
theorem byte (h : First last P a b left m) (h0 : 0 < left) {p x : Int} (hp : 0 ≤ p) (hq : p + 1 ≤ 300) {M : Nat} (hm : b.q.length + 1 ≤ M * 500) (hM : a.q.length ≤ M) :
    First last (P ++ [(p.toNat, x)]) a (b.write p [x]) (left - 1) M where
  oka := h.oka
  okb := Dm.ok_write h.okb ⟨hp, by simp, by rw [h.same, h.la]; simpa using hq⟩
  la := h.la
  same := h.same
  pd := by
    have h1 := h.pd
    have h2 := h.lf
    have h3 : (pend b.q).length = min last.toNat P.length := by rw [h1, List.length_take]
    have h4 : P.length < last.toNat := by omega
    rw [pend_write, h1, List.take_of_length_le (by omega), List.take_of_length_le (by simp; omega)]
    simp [pendOf]
  lf := by
    rw [pend_write, List.length_append, pendOf_length]
    have := h.lf
    simp
    omega
  qa := hM
  qb := by simp only [Dm.write, List.length_append, List.length_singleton]; omega
/-- No byte more counts. -/
theorem full (h : First last P a b left m) (h0 : left ≤ 0) (R : List (Nat × Int)) : First last (P ++ R) a b left m := by
  refine ⟨h.oka, h.okb, h.la, h.same, ?_, h.lf, h.qa, h.qb⟩
  have h1 := h.pd
  have h2 := h.lf
  have h3 : (pend b.q).length = min last.toNat P.length := by rw [h1, List.length_take]
  rw [h1, List.take_append_of_le_length (by omega)]
/-- The a-disk's write. -/
theorem wrote (h : First last P a b left m) {p : Int} {l : List Int} (hf : a.fits p l.length) : First last P (a.write p l) b left (m + 1) :=
  ⟨Dm.ok_write h.oka hf, h.okb, h.la, h.same, h.pd, h.lf, by have := h.qa; simp only [Dm.write, List.length_append, List.length_singleton]; omega, Nat.le_trans h.qb (Nat.mul_le_mul_right 500 (Nat.le_succ m))⟩
theorem final (h : First last (pend a.q) a b left m) : (a.settle last).now = b.flush.now := by
  rw [show b.flush.now = b.now from rfl, Dm.now_eq h.okb, h.pd, h.same]
  rfl
end First
theorem settle_nil {d : Dm} (h : d.q = []) (last : Int) : d.settle last = d := by
  obtain ⟨b, q, f, g⟩ := d
  simp only at h
  subst h
  simp [Dm.settle, pend, putAll]
end Go.Proofs.Ytmbemlpmfklddaa.Own
