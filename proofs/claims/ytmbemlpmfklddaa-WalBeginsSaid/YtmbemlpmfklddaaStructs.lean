/- Arguments that are slices of structs: how each reads. -/
import Derived.Test.YtmbemlpmfklddaaOpen
namespace Go.Proofs.Ytmbemlpmfklddaa.Own
open Go.ChangeShapes Go.WideShapes Go.ChangeAt Go.RowKit Go.Deep Go.Joins
open Go.Proofs.YtmbemlpmfklddaaW.PrintWords
theorem list_one {α : Type} {l : List α} (h : l.length = 1) : ∃ a, l = [a] := by
  match l, h with
  | [a], _ => exact ⟨a, rfl⟩
section
variable {H : Type} {enc : TypeId × Value → H} {P : Program} {w : World} {base : Nat} {spare : Nat → Bool} {held : Bool}
theorem opens_bytes {t e : TypeId} (ht : P.underlying t = some (.slice e)) (he : P.underlying e = some (.int .u8)) (hc : P.cellsOf e = 1) (e' : Nat) :
    Opens enc P w base spare held t (Kd.slice e' (Kd.int .u8)) (fun xs => ∀ x ∈ xs, 0 ≤ x ∧ x < 256) := by
  intro fuel cs y h
  obtain ⟨x, h1, h2⟩ := opens_rows (d := Kd.int .u8) ht hc (opens_int he) e' fuel cs y h
  refine ⟨x, h1, fun z hz => ?_⟩
  have := h2 z hz
  simp [Lit.wf, IntKind.min, IntKind.max, IntKind.signed, IntKind.bits] at this
  omega
theorem opens_i64 {t : TypeId} (ht : P.underlying t = some (.int .i64)) : Opens enc P w base spare held t (Kd.int .i64) (fun x => -9223372036854775808 ≤ x ∧ x ≤ 9223372036854775807) := by
  intro fuel cs y h
  obtain ⟨x, h1, h2⟩ := opens_int ht fuel cs y h
  refine ⟨x, h1, ?_⟩
  simp [Lit.wf, IntKind.min, IntKind.max, IntKind.signed, IntKind.bits] at h2
  omega
theorem opens4 {t : TypeId} {f0 f1 f2 f3 : Field} {α0 α1 α2 α3 : Type} {d0 : Kd α0} {d1 : Kd α1} {d2 : Kd α2} {d3 : Kd α3} {Q0 : α0 → Prop} {Q1 : α1 → Prop} {Q2 : α2 → Prop} {Q3 : α3 → Prop}
    (ht : P.underlying t = some (.struct #[f0, f1, f2, f3])) (hone : oneCellFields P #[f0, f1, f2, f3] = true) (hC : P.cellsOf t = 4)
    (h0 : Opens enc P w base spare held f0.type d0 Q0) (h1 : Opens enc P w base spare held f1.type d1 Q1) (h2 : Opens enc P w base spare held f2.type d2 Q2) (h3 : Opens enc P w base spare held f3.type d3 Q3) :
    Opens enc P w base spare held t (Kd.pair d0 (Kd.pair d1 (Kd.pair d2 d3))) (fun x => Q0 x.1 ∧ Q1 x.2.1 ∧ Q2 x.2.2.1 ∧ Q3 x.2.2.2) := by
  intro fuel cs y h
  obtain ⟨y0, y1, y2, y3, n, _, hl, g0, g1, g2, g3⟩ := trod_struct4 ht h
  rw [hC] at hl
  obtain ⟨o0, k0⟩ := hone_of hone 0 f0 rfl
  obtain ⟨o1, k1⟩ := hone_of hone 1 f1 rfl
  obtain ⟨o2, k2⟩ := hone_of hone 2 f2 rfl
  obtain ⟨o3, k3⟩ := hone_of hone 3 f3 rfl
  match cs, hl with
  | [a, b, c, d], _ =>
    rw [o0, k0] at g0
    rw [o1, k1] at g1
    rw [o2, k2] at g2
    rw [o3, k3] at g3
    obtain ⟨x0, K0, q0⟩ := h0 _ _ _ g0
    obtain ⟨x1, K1, q1⟩ := h1 _ _ _ g1
    obtain ⟨x2, K2, q2⟩ := h2 _ _ _ g2
    obtain ⟨x3, K3, q3⟩ := h3 _ _ _ g3
    exact ⟨(x0, x1, x2, x3), ⟨[a], [b, c, d], rfl, K0, [b], [c, d], rfl, K1, [c], [d], rfl, K2, K3⟩, q0, q1, q2, q3⟩
theorem opens2 {t : TypeId} {f0 f1 : Field} {α0 α1 : Type} {d0 : Kd α0} {d1 : Kd α1} {Q0 : α0 → Prop} {Q1 : α1 → Prop}
    (ht : P.underlying t = some (.struct #[f0, f1])) (hone : oneCellFields P #[f0, f1] = true) (hC : P.cellsOf t = 2)
    (h0 : Opens enc P w base spare held f0.type d0 Q0) (h1 : Opens enc P w base spare held f1.type d1 Q1) :
    Opens enc P w base spare held t (Kd.pair d0 d1) (fun x => Q0 x.1 ∧ Q1 x.2) := by
  intro fuel cs y h
  obtain ⟨y0, y1, n, _, hl, g0, g1⟩ := trod_struct2 ht h
  rw [hC] at hl
  obtain ⟨o0, k0⟩ := hone_of hone 0 f0 rfl
  obtain ⟨o1, k1⟩ := hone_of hone 1 f1 rfl
  match cs, hl with
  | [a, b], _ =>
    rw [o0, k0] at g0
    rw [o1, k1] at g1
    obtain ⟨x0, K0, q0⟩ := h0 _ _ _ g0
    obtain ⟨x1, K1, q1⟩ := h1 _ _ _ g1
    exact ⟨(x0, x1), ⟨[a], [b], rfl, K0, K1⟩, q0, q1⟩
end
/-- An op of the disk's law. -/
abbrev Op12 := Int × Int × Int × List Int
def k37 : Kd Op12 := Kd.pair (Kd.int .i64) (Kd.pair (Kd.int .i64) (Kd.pair (Kd.int .i64) (Kd.slice 5 (Kd.int .u8))))
def Q37 (x : Op12) : Prop := (-9223372036854775808 ≤ x.1 ∧ x.1 ≤ 9223372036854775807) ∧ (-9223372036854775808 ≤ x.2.1 ∧ x.2.1 ≤ 9223372036854775807) ∧ (-9223372036854775808 ≤ x.2.2.1 ∧ x.2.2.1 ≤ 9223372036854775807) ∧ ∀ z ∈ x.2.2.2, 0 ≤ z ∧ z < 256
theorem opens37 {H : Type} {enc : TypeId × Value → H} {w : World} {base : Nat} {spare : Nat → Bool} {held : Bool} : Opens enc Try.prog w base spare held 37 k37 Q37 :=
  opens4 Try.underlying37 (by kernel_rfl) (by kernel_rfl) (opens_i64 Try.underlying3) (opens_i64 Try.underlying3) (opens_i64 Try.underlying3) (opens_bytes Try.underlying22 Try.underlying5 (by kernel_rfl) 5)
theorem at37 {w : World} {A : Option Addr} {n : Nat} {xs : List Op12} (h : Kd.C k37 w A n xs) (i : Nat) (hi : i < xs.length) (hn : n = xs.length) : ∃ ad A3 c3, A = some ad ∧ w.cell? (ad.add (i * 4)) = some (.int .i64 xs[i].1) ∧
    w.cell? ⟨(ad.add (i * 4)).block, (ad.add (i * 4)).off + 1, none⟩ = some (.int .i64 xs[i].2.1) ∧ w.cell? ⟨(ad.add (i * 4)).block, (ad.add (i * 4)).off + 2, none⟩ = some (.int .i64 xs[i].2.2.1) ∧
    w.cell? ⟨(ad.add (i * 4)).block, (ad.add (i * 4)).off + 3, none⟩ = some (.slice A3 xs[i].2.2.2.length c3) ∧ xs[i].2.2.2.length ≤ c3 ∧ (Kd.int .u8).C w A3 xs[i].2.2.2.length xs[i].2.2.2 := by
  obtain ⟨ad, c, e, _, hK, hc0⟩ := Kd.C_get h (0, 0, 0, []) (i : Int) (by omega) (by omega)
  have e0 : xs.getD (i : Int).toNat (0, 0, 0, []) = xs[i] := by
    rw [Int.toNat_natCast]
    simp [List.getD_eq_getElem?_getD, List.getElem?_eq_getElem hi]
  rw [e0] at hK
  have hc : ∀ j u, c[j]? = some u → w.cell? (ad.add (i * 4 + j)) = some u := hc0
  obtain ⟨_, _, rfl, rfl, _, _, rfl, rfl, _, _, rfl, rfl, A3, c3, rfl, l3, g3⟩ := hK
  refine ⟨ad, A3, c3, e, hc 0 _ rfl, ?_, ?_, ?_, l3, g3⟩
  · rw [← add_field _ _ 1 (by omega)]; exact hc 1 _ rfl
  · rw [← add_field _ _ 2 (by omega)]; exact hc 2 _ rfl
  · rw [← add_field _ _ 3 (by omega)]; exact hc 3 _ rfl
/-- A record. -/
abbrev Rec := Int × List Int
def kR : Kd Rec := Kd.pair (Kd.int .i64) (Kd.slice 5 (Kd.int .u8))
def QR (x : Rec) : Prop := (-9223372036854775808 ≤ x.1 ∧ x.1 ≤ 9223372036854775807) ∧ ∀ z ∈ x.2, 0 ≤ z ∧ z < 256
theorem opensR {H : Type} {enc : TypeId × Value → H} {w : World} {base : Nat} {spare : Nat → Bool} {held : Bool} : Opens enc Try.prog w base spare held 49 kR QR :=
  opens2 Try.underlying49 (by kernel_rfl) (by kernel_rfl) (opens_i64 Try.underlying3) (opens_bytes Try.underlying22 Try.underlying5 (by kernel_rfl) 5)
theorem atR {w : World} {A : Option Addr} {n : Nat} {xs : List Rec} (h : Kd.C kR w A n xs) (i : Nat) (hi : i < xs.length) (hn : n = xs.length) : ∃ ad A3 c3, A = some ad ∧ w.cell? (ad.add (i * 2)) = some (.int .i64 xs[i].1) ∧
    w.cell? ⟨(ad.add (i * 2)).block, (ad.add (i * 2)).off + 1, none⟩ = some (.slice A3 xs[i].2.length c3) ∧ xs[i].2.length ≤ c3 ∧ (Kd.int .u8).C w A3 xs[i].2.length xs[i].2 := by
  obtain ⟨ad, c, e, _, hK, hc0⟩ := Kd.C_get h (0, []) (i : Int) (by omega) (by omega)
  have e0 : xs.getD (i : Int).toNat (0, []) = xs[i] := by
    rw [Int.toNat_natCast]
    simp [List.getD_eq_getElem?_getD, List.getElem?_eq_getElem hi]
  rw [e0] at hK
  have hc : ∀ j u, c[j]? = some u → w.cell? (ad.add (i * 2 + j)) = some u := hc0
  obtain ⟨_, _, rfl, rfl, A3, c3, rfl, l3, g3⟩ := hK
  refine ⟨ad, A3, c3, e, hc 0 _ rfl, ?_, l3, g3⟩
  rw [← add_field _ _ 1 (by omega)]; exact hc 1 _ rfl
/-- A row of rows of bytes. -/
theorem opensRows {H : Type} {enc : TypeId × Value → H} {w : World} {base : Nat} {spare : Nat → Bool} {held : Bool} : Opens enc Try.prog w base spare held 22 (Kd.slice 5 (Kd.int .u8)) (fun xs => ∀ x ∈ xs, 0 ≤ x ∧ x < 256) :=
  opens_bytes Try.underlying22 Try.underlying5 (by kernel_rfl) 5
end Go.Proofs.Ytmbemlpmfklddaa.Own
