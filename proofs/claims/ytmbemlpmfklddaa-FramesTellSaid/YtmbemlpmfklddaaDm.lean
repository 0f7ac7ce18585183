/- A disk as plain lists: what it has, the writes that wait; a write, what is read, a crash, a flush. -/
import Derived.RowKit
namespace Go.Proofs.Ytmbemlpmfklddaa.Own
open Go.RowKit
/-- A disk: its bytes, the writes that wait, two counts. -/
structure Dm where
  b : List Int
  q : List (Int × List Int)
  fl : Int
  wr : Int
def splice (b : List Int) (p : Nat) (l : List Int) : List Int := b.take p ++ l ++ b.drop (p + l.length)
/-- What waits, byte by byte, with its place. -/
def pendOf (w : Int × List Int) : List (Nat × Int) := w.2.zipIdx.map fun c => (w.1.toNat + c.2, c.1)
def pend (q : List (Int × List Int)) : List (Nat × Int) := q.flatMap pendOf
def putAll (b : List Int) (l : List (Nat × Int)) : List Int := l.foldl (fun b p => b.set p.1 p.2) b
namespace Dm
def new (n : Nat) : Dm := ⟨List.replicate n 0, [], 0, 0⟩
def fits (d : Dm) (p n : Int) : Prop := 0 ≤ p ∧ 0 ≤ n ∧ p + n ≤ d.b.length
instance (d : Dm) (p n : Int) : Decidable (d.fits p n) := by unfold fits; infer_instance
def write (d : Dm) (p : Int) (l : List Int) : Dm := { d with q := d.q ++ [(p, l)], wr := wrap64 (d.wr + l.length) }
def now (d : Dm) : List Int := d.q.foldl (fun b w => splice b w.1.toNat w.2) d.b
def read (d : Dm) (p n : Nat) : List Int := (d.now.drop p).take n
def settle (d : Dm) (last : Int) : Dm := { d with b := putAll d.b ((pend d.q).take last.toNat), q := [] }
def waits (d : Dm) : Nat := (d.q.map fun w => w.2.length).sum
def flush (d : Dm) : Dm := { d with b := d.now, q := [], fl := wrap64 (d.fl + 1) }
/-- Each write fits; the disk is of a size that may be. -/
structure Ok (d : Dm) : Prop where
  lo : 64 ≤ d.b.length
  hi : d.b.length ≤ 262144
  fit : ∀ w ∈ d.q, 0 ≤ w.1 ∧ w.1 + w.2.length ≤ d.b.length
end Dm
theorem putAll_length (l : List (Nat × Int)) : ∀ b : List Int, (putAll b l).length = b.length := by
  induction l with
  | nil => intro b; rfl
  | cons p l ih => intro b; show (putAll (b.set p.1 p.2) l).length = _; rw [ih, List.length_set]
theorem putAll_append (b : List Int) (l m : List (Nat × Int)) : putAll b (l ++ m) = putAll (putAll b l) m := by simp [putAll]
theorem pendOf_length (w : Int × List Int) : (pendOf w).length = w.2.length := by simp [pendOf]
theorem pend_append (q r : List (Int × List Int)) : pend (q ++ r) = pend q ++ pend r := by simp [pend]
theorem pend_length (q : List (Int × List Int)) : (pend q).length = (q.map fun w => w.2.length).sum := by
  induction q with
  | nil => rfl
  | cons w q ih =>
    show (pendOf w ++ pend q).length = _
    rw [List.length_append, pendOf_length, ih]
    simp
theorem splice_length {b : List Int} {p : Nat} {l : List Int} (h : p + l.length ≤ b.length) : (splice b p l).length = b.length := by
  simp [splice]; omega
theorem putAll_shift (l : List Int) : ∀ (b : List Int) (p k : Nat), p + k + l.length ≤ b.length →
    putAll b ((l.zipIdx k).map fun c => (p + c.2, c.1)) = splice b (p + k) l := by
  induction l with
  | nil => intro b p k _; simp [putAll, splice]
  | cons c l ih =>
    intro b p k h
    rw [List.length_cons] at h
    rw [List.zipIdx_cons, List.map_cons]
    show putAll (b.set (p + k) c) ((l.zipIdx (k + 1)).map fun c => (p + c.2, c.1)) = _
    rw [ih _ _ _ (by rw [List.length_set]; omega)]
    unfold splice
    have h1 : (b.set (p + k) c).take (p + (k + 1)) = b.take (p + k) ++ [c] := by
      rw [List.set_eq_take_append_cons_drop, if_pos (by omega), show p + (k + 1) = (b.take (p + k)).length + 1 by rw [List.length_take]; omega, List.take_length_add_append]
      simp
    rw [h1, List.drop_set_of_lt (by omega)]
    simp [Nat.add_assoc, Nat.add_comm 1]
theorem putAll_pendOf {b : List Int} {w : Int × List Int} (h : w.1.toNat + w.2.length ≤ b.length) : putAll b (pendOf w) = splice b w.1.toNat w.2 := by
  have := putAll_shift w.2 b w.1.toNat 0 (by omega)
  simpa [pendOf] using this
theorem now_put (q : List (Int × List Int)) : ∀ b : List Int, (∀ w ∈ q, 0 ≤ w.1 ∧ w.1 + w.2.length ≤ b.length) → q.foldl (fun b w => splice b w.1.toNat w.2) b = putAll b (pend q) := by
  induction q with
  | nil => intro b _; rfl
  | cons w q ih =>
    intro b h
    have hw := h w (by simp)
    have hl : w.1.toNat + w.2.length ≤ b.length := by omega
    show (q.foldl (fun b w => splice b w.1.toNat w.2) (splice b w.1.toNat w.2)) = putAll b (pendOf w ++ pend q)
    rw [putAll_append, putAll_pendOf hl]
    exact ih _ (fun v hv => by rw [splice_length hl]; exact h v (List.mem_cons_of_mem _ hv))
namespace Dm
theorem now_eq {d : Dm} (h : d.Ok) : d.now = putAll d.b (pend d.q) := now_put d.q d.b h.fit
theorem now_length {d : Dm} (h : d.Ok) : d.now.length = d.b.length := by rw [now_eq h, putAll_length]
theorem ok_new {n : Nat} (h : 64 ≤ n) (h' : n ≤ 262144) : (new n).Ok := ⟨by simpa [new] using h, by simpa [new] using h', by simp [new]⟩
theorem ok_write {d : Dm} (h : d.Ok) {p : Int} {l : List Int} (hf : d.fits p l.length) : (d.write p l).Ok :=
  ⟨h.lo, h.hi, fun w hw => by
    rcases List.mem_append.1 hw with hw | hw
    · exact h.fit w hw
    · obtain rfl := List.mem_singleton.1 hw
      exact ⟨hf.1, hf.2.2⟩⟩
theorem ok_settle {d : Dm} (h : d.Ok) (last : Int) : (d.settle last).Ok :=
  ⟨by simp only [settle, putAll_length]; exact h.lo, by simp only [settle, putAll_length]; exact h.hi, by simp [settle]⟩
theorem ok_flush {d : Dm} (h : d.Ok) : d.flush.Ok :=
  ⟨by simp only [flush, now_length h]; exact h.lo, by simp only [flush, now_length h]; exact h.hi, by simp [flush]⟩
theorem settle_all {d : Dm} (h : d.Ok) {last : Int} (hl : (d.waits : Int) ≤ last) : (d.settle last).b = d.now := by
  rw [now_eq h]
  simp only [settle]
  rw [List.take_of_length_le]
  rw [pend_length]
  unfold waits at hl
  omega
end Dm
end Go.Proofs.Ytmbemlpmfklddaa.Own
