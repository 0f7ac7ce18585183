/- How the arguments of a law read: slices of numbers, of slices, of structs. -/
import Derived.Test.YtmapdfommjcebaaGreatRows
import Derived.Test.YtmapdfommjcebaaGreatBas
import Derived.WalkKit
import Derived.ProofKit
import Derived.OpenShut
import Derived.ShutString
import Derived.ChangeOld
import Derived.Below
import Derived.SizedLaws
import Derived.Lib.SmallJoins
namespace Go.Proofs.YtmapdfommjcebaaGreat.Own
open Go.ChangeShapes Go.WideShapes Go.ChangeAt Go.RowKit
open Go.Proofs.YtmapdfommjcebaaGreatW.PrintWords
theorem add_add (a : Addr) (m n : Nat) : (a.add m).add n = a.add (m + n) := by
  unfold Addr.add
  by_cases hm : m = 0
  · subst hm
    simp
  · by_cases hn : n = 0
    · subst hn
      simp
    · rw [if_neg hm, if_neg hn, if_neg (by omega)]
      simp [Nat.add_assoc]
theorem list_of {α : Type} {len : Nat} {R : Nat → α → Prop} (h : ∀ i, i < len → ∃ x, R i x) : ∃ xs : List α, xs.length = len ∧ ∀ i x, xs[i]? = some x → R i x := by
  induction len with
  | zero => exact ⟨[], rfl, by simp⟩
  | succ k ih =>
    obtain ⟨xs, hx, hall⟩ := ih (fun i hi => h i (by omega))
    obtain ⟨x, h1⟩ := h k (by omega)
    refine ⟨xs ++ [x], by simp [hx], fun i z hz => ?_⟩
    rcases Nat.lt_or_ge i xs.length with hi | hi
    · rw [List.getElem?_append_left hi] at hz
      exact hall i z hz
    · have hi2 : i = xs.length := by
        have := (List.getElem?_eq_some_iff.1 hz).1
        simp at this
        omega
      subst hi2
      have : x = z := by simpa using hz
      subst this
      rw [hx]
      exact h1
section
variable {H : Type} {enc : TypeId × Value → H} {P : Program} {w : World} {base : Nat} {spare : Nat → Bool} {held : Bool}
/-- What reads as data of type t reads as a thing of the kind d, of which Q holds. -/
def Opens (enc : TypeId × Value → H) (P : Program) (w : World) (base : Nat) (spare : Nat → Bool) (held : Bool) (t : TypeId) {α : Type} (d : Kd α) (Q : α → Prop) : Prop :=
  ∀ fuel cs y, DataW.trod enc P w base spare held fuel t cs = some y → ∃ x, d.K w x cs ∧ Q x
theorem opens_int {t : TypeId} {k : IntKind} (ht : P.underlying t = some (.int k)) : Opens enc P w base spare held t (Kd.int k) (fun n => (Lit.int k n).wf = true) := by
  intro fuel cs y h
  obtain ⟨n, rfl, _, hw⟩ := DataW.trod_int ht h
  exact ⟨n, rfl, hw⟩
theorem opens_slice {t e : TypeId} {α : Type} {d : Kd α} {Q : α → Prop} (ht : P.underlying t = some (.slice e)) (hc : P.cellsOf e = d.sz) (hel : Opens enc P w base spare held e d Q) :
    ∀ fuel cs y, DataW.trod enc P w base spare held fuel t cs = some y → ∃ A c xs, cs = [.slice A xs.length c] ∧ xs.length ≤ c ∧ d.C w A xs.length xs ∧ ∀ x ∈ xs, Q x := by
  intro fuel cs y h
  rcases DataW.trod_slice ht h with ⟨rfl, _⟩ | ⟨a, len, cap, elems, rest, n, _, rfl, _, _, hl, hm, hlen, hel2, _, _⟩
  · exact ⟨none, 0, [], rfl, Nat.le_refl _, Kd.C_nil _ _, by simp⟩
  · have hex : ∀ i, i < len → ∃ x cs, w.cells? base (a.add (i * d.sz)) d.sz = some cs ∧ d.K w x cs ∧ Q x := by
      intro i hi
      have h1 := hel2 i hi
      rw [List.getElem?_eq_getElem (by omega), hc] at h1
      obtain ⟨cs, hcs, ht⟩ := Option.bind_eq_some_iff.1 h1
      obtain ⟨x, hK, hQ⟩ := hel _ _ _ ht
      exact ⟨x, cs, hcs, hK, hQ⟩
    obtain ⟨xs, rfl, hall⟩ := list_of hex
    refine ⟨some a, cap, xs, rfl, hl, ⟨rfl, by simp only [maxLen] at hm; omega, fun _ => ⟨a, rfl, fun j p hj => ?_⟩⟩, fun x hx => ?_⟩
    · obtain ⟨cs, hcs, hK, _⟩ := hall j p hj
      refine ⟨cs, d.K_len hK, hK, fun i u hu => ?_⟩
      obtain ⟨_, h1, h2⟩ := World.cells?_some hcs
      have hi := (List.getElem?_eq_some_iff.1 hu).1
      rw [← add_add, h2 i (by omega)]
      exact hu
    · obtain ⟨i, hi, rfl⟩ := List.mem_iff_getElem.1 hx
      obtain ⟨_, _, _, hQ⟩ := hall i _ (List.getElem?_eq_getElem hi)
      exact hQ
theorem opens_rows {t e : TypeId} {α : Type} {d : Kd α} {Q : α → Prop} (ht : P.underlying t = some (.slice e)) (hc : P.cellsOf e = d.sz) (hel : Opens enc P w base spare held e d Q) (e' : Nat) :
    Opens enc P w base spare held t (Kd.slice e' d) (fun xs => ∀ x ∈ xs, Q x) := by
  intro fuel cs y h
  obtain ⟨A, c, xs, rfl, hl, hC, hQ⟩ := opens_slice ht hc hel fuel cs y h
  exact ⟨xs, ⟨A, c, rfl, hl, hC⟩, hQ⟩
/-- A parameter that is a slice. -/
theorem open_arg {t e : TypeId} {α : Type} {d : Kd α} {Q : α → Prop} (ht : P.underlying t = some (.slice e)) (hc : P.cellsOf e = d.sz) (hel : Opens enc P w base spare held e d Q)
    {r : Reach} {b0 : Nat} {v : Value} {x : DataW H} {ps : List MemPlace} (hval : Value.okWide P w r b0 t v) (h : DataW.Trod enc P w base spare held t v x ps) :
    ∃ A c xs, v = .slice A xs.length c ∧ xs.length ≤ c ∧ d.C w A xs.length xs ∧ ∀ x ∈ xs, Q x := by
  obtain ⟨A0, n, c0, rfl⟩ := okWide_slice ht hval
  obtain ⟨fuel, hf⟩ := h
  obtain ⟨A, c, xs, hcs, hl, hC, hQ⟩ := opens_slice ht hc hel _ _ _ hf
  have hcs2 : [Value.slice A0 n c0] = [.slice A xs.length c] := hcs
  injection hcs2 with hv _
  exact ⟨A, c, xs, hv, hl, hC, hQ⟩
end
theorem byte_range {l : List Int} (h : ∀ x ∈ l, (Lit.int .u8 x).wf = true) : ∀ x ∈ l, 0 ≤ x ∧ x < 256 := by
  intro x hx
  have := h x hx
  simp [Lit.wf, IntKind.min, IntKind.max, IntKind.signed, IntKind.bits] at this
  omega
end Go.Proofs.YtmapdfommjcebaaGreat.Own
