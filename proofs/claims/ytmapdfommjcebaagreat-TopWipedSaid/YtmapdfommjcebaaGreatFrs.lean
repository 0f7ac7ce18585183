/- Arguments that are slices of structs: how each reads. What the frames' small functions answer: which records may be, a sum's bytes, a record's sum, equal bytes, bytes one behind the other. What stands on bytes: the record that bytes begin with, and all records. Plain lists. A record's frame. The record that bytes begin with: the walk. All records that stand on bytes: the walk. -/
import Derived.Test.YtmapdfommjcebaaGreatOpen
import Derived.Test.YtmapdfommjcebaaGreatDka
import Derived.Test.YtmapdfommjcebaaGreatBas
import Derived.Deep.DeepMust
import Derived.Deep.RegionHeld3
import Derived.BigRegion
import Derived.Deep.DeepCutAuto
import Derived.Deep.CutBlock
import Derived.Laws.BitsLemmas
import Derived.IntWalk
import Derived.WalkMore
import Derived.ScopeJumps
namespace Go.Proofs.YtmapdfommjcebaaGreat.Own
open Go.ChangeShapes Go.WideShapes Go.ChangeAt Go.RowKit Go.Deep Go.Joins
open Go.Proofs.YtmapdfommjcebaaGreatW.PrintWords
theorem list_one {α : Type} {l : List α} (h : l.length = 1) : ∃ a, l = [a] := by
  match l, h with
  | [a], _ => exact ⟨a, rfl⟩
section
variable {H : Type} {enc : TypeId × Value → H} {P : Program} {w : World} {base : Nat} {spare : Nat → Bool} {held : Bool}
theorem opens_bytes {t e : TypeId} (ht : P.underlying t = some (.slice e)) (he : P.underlying e = some (.int .u8)) (hc : P.cellsOf e = 1) (e' : Nat) :
    Opens enc P w base spare held t (Kd.slice e' (Kd.int .u8)) (fun xs => ∀ x ∈ xs, 0 ≤ x ∧ x < 256) := by
  intro fuel cs y h
  obtain ⟨x, h1, h2⟩ := opens_rows (d := Kd.int .u8) ht hc (opens_int he) e' fuel cs y h
  refine ⟨x, h1, fun z hz => ?_⟩
  have := h2 z hz
  simp [Lit.wf, IntKind.min, IntKind.max, IntKind.signed, IntKind.bits] at this
  omega
theorem opens_i64 {t : TypeId} (ht : P.underlying t = some (.int .i64)) : Opens enc P w base spare held t (Kd.int .i64) (fun x => -9223372036854775808 ≤ x ∧ x ≤ 9223372036854775807) := by
  intro fuel cs y h
  obtain ⟨x, h1, h2⟩ := opens_int ht fuel cs y h
  refine ⟨x, h1, ?_⟩
  simp [Lit.wf, IntKind.min, IntKind.max, IntKind.signed, IntKind.bits] at h2
  omega
theorem opens4 {t : TypeId} {f0 f1 f2 f3 : Field} {α0 α1 α2 α3 : Type} {d0 : Kd α0} {d1 : Kd α1} {d2 : Kd α2} {d3 : Kd α3} {Q0 : α0 → Prop} {Q1 : α1 → Prop} {Q2 : α2 → Prop} {Q3 : α3 → Prop}
    (ht : P.underlying t = some (.struct #[f0, f1, f2, f3])) (hone : oneCellFields P #[f0, f1, f2, f3] = true) (hC : P.cellsOf t = 4)
    (h0 : Opens enc P w base spare held f0.type d0 Q0) (h1 : Opens enc P w base spare held f1.type d1 Q1) (h2 : Opens enc P w base spare held f2.type d2 Q2) (h3 : Opens enc P w base spare held f3.type d3 Q3) :
    Opens enc P w base spare held t (Kd.pair d0 (Kd.pair d1 (Kd.pair d2 d3))) (fun x => Q0 x.1 ∧ Q1 x.2.1 ∧ Q2 x.2.2.1 ∧ Q3 x.2.2.2) := by
  intro fuel cs y h
  obtain ⟨y0, y1, y2, y3, n, _, hl, g0, g1, g2, g3⟩ := trod_struct4 ht h
  rw [hC] at hl
  obtain ⟨o0, k0⟩ := hone_of hone 0 f0 rfl
  obtain ⟨o1, k1⟩ := hone_of hone 1 f1 rfl
  obtain ⟨o2, k2⟩ := hone_of hone 2 f2 rfl
  obtain ⟨o3, k3⟩ := hone_of hone 3 f3 rfl
  match cs, hl with
  | [a, b, c, d], _ =>
    rw [o0, k0] at g0
    rw [o1, k1] at g1
    rw [o2, k2] at g2
    rw [o3, k3] at g3
    obtain ⟨x0, K0, q0⟩ := h0 _ _ _ g0
    obtain ⟨x1, K1, q1⟩ := h1 _ _ _ g1
    obtain ⟨x2, K2, q2⟩ := h2 _ _ _ g2
    obtain ⟨x3, K3, q3⟩ := h3 _ _ _ g3
    exact ⟨(x0, x1, x2, x3), ⟨[a], [b, c, d], rfl, K0, [b], [c, d], rfl, K1, [c], [d], rfl, K2, K3⟩, q0, q1, q2, q3⟩
theorem opens2 {t : TypeId} {f0 f1 : Field} {α0 α1 : Type} {d0 : Kd α0} {d1 : Kd α1} {Q0 : α0 → Prop} {Q1 : α1 → Prop}
    (ht : P.underlying t = some (.struct #[f0, f1])) (hone : oneCellFields P #[f0, f1] = true) (hC : P.cellsOf t = 2)
    (h0 : Opens enc P w base spare held f0.type d0 Q0) (h1 : Opens enc P w base spare held f1.type d1 Q1) :
    Opens enc P w base spare held t (Kd.pair d0 d1) (fun x => Q0 x.1 ∧ Q1 x.2) := by
  intro fuel cs y h
  obtain ⟨y0, y1, n, _, hl, g0, g1⟩ := trod_struct2 ht h
  rw [hC] at hl
  obtain ⟨o0, k0⟩ := hone_of hone 0 f0 rfl
  obtain ⟨o1, k1⟩ := hone_of hone 1 f1 rfl
  match cs, hl with
  | [a, b], _ =>
    rw [o0, k0] at g0
    rw [o1, k1] at g1
    obtain ⟨x0, K0, q0⟩ := h0 _ _ _ g0
    obtain ⟨x1, K1, q1⟩ := h1 _ _ _ g1
    exact ⟨(x0, x1), ⟨[a], [b], rfl, K0, K1⟩, q0, q1⟩
end
/-- An op of the disk's law. -/
abbrev Op12 := Int × Int × Int × List Int
def k37 : Kd Op12 := Kd.pair (Kd.int .i64) (Kd.pair (Kd.int .i64) (Kd.pair (Kd.int .i64) (Kd.slice 5 (Kd.int .u8))))
def Q37 (x : Op12) : Prop := (-9223372036854775808 ≤ x.1 ∧ x.1 ≤ 9223372036854775807) ∧ (-9223372036854775808 ≤ x.2.1 ∧ x.2.1 ≤ 9223372036854775807) ∧ (-9223372036854775808 ≤ x.2.2.1 ∧ x.2.2.1 ≤ 9223372036854775807) ∧ ∀ z ∈ x.2.2.2, 0 ≤ z ∧ z < 256
theorem at37 {w : World} {A : Option Addr} {n : Nat} {xs : List Op12} (h : Kd.C k37 w A n xs) (i : Nat) (hi : i < xs.length) (hn : n = xs.length) : ∃ ad A3 c3, A = some ad ∧ w.cell? (ad.add (i * 4)) = some (.int .i64 xs[i].1) ∧
    w.cell? ⟨(ad.add (i * 4)).block, (ad.add (i * 4)).off + 1, none⟩ = some (.int .i64 xs[i].2.1) ∧ w.cell? ⟨(ad.add (i * 4)).block, (ad.add (i * 4)).off + 2, none⟩ = some (.int .i64 xs[i].2.2.1) ∧
    w.cell? ⟨(ad.add (i * 4)).block, (ad.add (i * 4)).off + 3, none⟩ = some (.slice A3 xs[i].2.2.2.length c3) ∧ xs[i].2.2.2.length ≤ c3 ∧ (Kd.int .u8).C w A3 xs[i].2.2.2.length xs[i].2.2.2 := by
  obtain ⟨ad, c, e, _, hK, hc0⟩ := Kd.C_get h (0, 0, 0, []) (i : Int) (by omega) (by omega)
  have e0 : xs.getD (i : Int).toNat (0, 0, 0, []) = xs[i] := by
    rw [Int.toNat_natCast]
    simp [List.getD_eq_getElem?_getD, List.getElem?_eq_getElem hi]
  rw [e0] at hK
  have hc : ∀ j u, c[j]? = some u → w.cell? (ad.add (i * 4 + j)) = some u := hc0
  obtain ⟨_, _, rfl, rfl, _, _, rfl, rfl, _, _, rfl, rfl, A3, c3, rfl, l3, g3⟩ := hK
  refine ⟨ad, A3, c3, e, hc 0 _ rfl, ?_, ?_, ?_, l3, g3⟩
  · rw [← add_field _ _ 1 (by omega)]; exact hc 1 _ rfl
  · rw [← add_field _ _ 2 (by omega)]; exact hc 2 _ rfl
  · rw [← add_field _ _ 3 (by omega)]; exact hc 3 _ rfl
/-- A record. -/
abbrev Rec := Int × List Int
def kR : Kd Rec := Kd.pair (Kd.int .i64) (Kd.slice 5 (Kd.int .u8))
def QR (x : Rec) : Prop := (-9223372036854775808 ≤ x.1 ∧ x.1 ≤ 9223372036854775807) ∧ ∀ z ∈ x.2, 0 ≤ z ∧ z < 256
theorem opensR {H : Type} {enc : TypeId × Value → H} {w : World} {base : Nat} {spare : Nat → Bool} {held : Bool} : Opens enc Tryz.prog w base spare held 56 kR QR :=
  opens2 Tryz.underlying56 (by kernel_rfl) (by kernel_rfl) (opens_i64 Tryz.underlying3) (opens_bytes Tryz.underlying29 Tryz.underlying5 (by kernel_rfl) 5)
theorem atR {w : World} {A : Option Addr} {n : Nat} {xs : List Rec} (h : Kd.C kR w A n xs) (i : Nat) (hi : i < xs.length) (hn : n = xs.length) : ∃ ad A3 c3, A = some ad ∧ w.cell? (ad.add (i * 2)) = some (.int .i64 xs[i].1) ∧
    w.cell? ⟨(ad.add (i * 2)).block, (ad.add (i * 2)).off + 1, none⟩ = some (.slice A3 xs[i].2.length c3) ∧ xs[i].2.length ≤ c3 ∧ (Kd.int .u8).C w A3 xs[i].2.length xs[i].2 := by
  obtain ⟨ad, c, e, _, hK, hc0⟩ := Kd.C_get h (0, []) (i : Int) (by omega) (by omega)
  have e0 : xs.getD (i : Int).toNat (0, []) = xs[i] := by
    rw [Int.toNat_natCast]
    simp [List.getD_eq_getElem?_getD, List.getElem?_eq_getElem hi]
  rw [e0] at hK
  have hc : ∀ j u, c[j]? = some u → w.cell? (ad.add (i * 2 + j)) = some u := hc0
  obtain ⟨_, _, rfl, rfl, A3, c3, rfl, l3, g3⟩ := hK
  refine ⟨ad, A3, c3, e, hc 0 _ rfl, ?_, l3, g3⟩
  rw [← add_field _ _ 1 (by omega)]; exact hc 1 _ rfl
/-- A row of rows of bytes. -/
theorem opensRows {H : Type} {enc : TypeId × Value → H} {w : World} {base : Nat} {spare : Nat → Bool} {held : Bool} : Opens enc Tryz.prog w base spare held 29 (Kd.slice 5 (Kd.int .u8)) (fun xs => ∀ x ∈ xs, 0 ≤ x ∧ x < 256) :=
  opens_bytes Tryz.underlying29 Tryz.underlying5 (by kernel_rfl) 5
end Go.Proofs.YtmapdfommjcebaaGreat.Own
namespace Go.Proofs.YtmapdfommjcebaaGreat.Own
open Go.RowKit Go.Proofs.YtmapdfommjcebaaGreatW.PrintWords Go.Proofs.YtmapdfommjcebaaGreatW.PrintLast Go.Proofs.YtmapdfommjcebaaGreatW.PrintMore
open PTopWiped
def okR (r : Rec) : Prop := 1 ≤ r.1 ∧ r.1 ≤ 255 ∧ r.2.length ≤ 60000
instance (r : Rec) : Decidable (okR r) := by unfold okR; infer_instance
def fourB (n : Int) : List Int := [n / 16777216 % 256, n / 65536 % 256, n / 256 % 256, n % 256]
def sumR (r : Rec) : Int := crcOf ([r.1 % 256] ++ r.2)
def frameR (r : Rec) : List Int := [90, r.1 % 256, (r.2.length : Int) / 256 % 256, (r.2.length : Int) % 256] ++ r.2 ++ fourB (sumR r) ++ [165]
theorem Right_calls (r : Rec) (A : Option Addr) (c : Nat) (w : World) (h : (Kd.int .u8).C w A r.2.length r.2) (hc : r.2.length ≤ c) :
    Calls Tryz.prog 56 #[.agg #[.int .i64 r.1, .slice A r.2.length c]] w fun e w' => e = .returned (.bool (decide (okR r))) ∧ Below w.heap.size w w' := by
  refine frames_Right.calls r.1 A c r.2 (decide (okR r)) w h hc ?_
  unfold frames_Right.f okR
  by_cases h1 : 1 ≤ r.1
  · rw [if_pos h1]
    by_cases h2 : r.1 ≤ 255
    · rw [if_pos h2]
      simp only [h1, h2, true_and]
      congr 2
      exact propext ⟨fun h => by omega, fun h => by omega⟩
    · rw [if_neg h2]
      simp [h2]
  · rw [if_neg h1]
    simp [h1]
theorem four_calls (n : Int) (w : World) : Calls Tryz.prog 58 #[.int .u32 n] w fun e w' => ∃ v, e = .returned v ∧ OwnB w' w.heap.size v (fourB n) ∧ Below w.heap.size w w' := by
  refine (frames_four.calls n (fourB n) w rfl).mono ?_
  rintro e w' ⟨v, rfl, hR, hb⟩
  exact ⟨v, rfl, Kd.own_of_R hR, hb⟩
theorem equal_run (l0 l1 : List Int) (hl : l0.length = l1.length) (hm : l0.length ≤ 9223372036854775806) : ∀ (m i : Nat), m + i = l0.length → slices_Equal_byte_byte.l0 (m + 1) l0 l1 (l0.length : Int) i = some (decide (l0.drop i = l1.drop i))
  | 0, i, h => by
    unfold slices_Equal_byte_byte.l0
    rw [if_neg (by omega), List.drop_of_length_le (by omega), List.drop_of_length_le (by omega)]
    simp
  | m + 1, i, h => by
    have ih := equal_run l0 l1 hl hm m (i + 1) (by omega)
    have hi : i < l0.length := by omega
    have hi1 : i < l1.length := by omega
    unfold slices_Equal_byte_byte.l0
    rw [if_pos (by omega), if_pos (by omega), if_pos (by omega), if_pos (by omega)]
    have e0 : rd l0 (i : Int) = l0[i] := by simp [rd, List.getD_eq_getElem?_getD, List.getElem?_eq_getElem hi]
    have e1 : rd l1 (i : Int) = l1[i] := by simp [rd, List.getD_eq_getElem?_getD, List.getElem?_eq_getElem hi1]
    have ew : wrap64 ((i : Int) + 1) = ((i + 1 : Nat) : Int) := by
      unfold wrap64
      omega
    rw [e0, e1, ew, ih, List.drop_eq_getElem_cons hi, List.drop_eq_getElem_cons hi1]
    by_cases he : l0[i] = l1[i]
    · rw [if_pos he, he]
      exact congrArg some (decide_eq_decide.2 ⟨fun h => by rw [h], fun h => (List.cons.inj h).2⟩)
    · rw [if_neg he]
      exact congrArg some (decide_eq_false (fun h => he (List.cons.inj h).1)).symm
theorem Equal_calls (A0 A1 : Option Addr) (c0 c1 : Nat) (l0 l1 : List Int) (w : World) (h0 : (Kd.int .u8).C w A0 l0.length l0) (h1 : (Kd.int .u8).C w A1 l1.length l1) (k0 : l0.length ≤ c0) (k1 : l1.length ≤ c1) (hm : l0.length ≤ 9223372036854775806) :
    Calls Tryz.prog 64 #[.slice A0 l0.length c0, .slice A1 l1.length c1] w fun e w' => e = .returned (.bool (decide (l0 = l1))) ∧ Drawn0 w w' := by
  refine slices_Equal_byte_byte.calls (l0.length + 1) A0 c0 l0 A1 c1 l1 (decide (l0 = l1)) w h0 k0 h1 k1 ?_
  unfold slices_Equal_byte_byte.f
  by_cases hl : l0.length = l1.length
  · rw [if_pos (by omega)]
    simpa using equal_run l0 l1 hl hm l0.length 0 (by omega)
  · rw [if_neg (by omega)]
    have : l0 ≠ l1 := fun h => hl (by rw [h])
    simp [this]
theorem heap_at {w : World} {o : Obj} {g : Nat} (h : g = w.heap.size) : (w.alloc o).heap[g]? = some o := by
  subst h
  exact heap_alloc_new _ _
/-- A row of rows in one block. -/
theorem C_rows {w : World} {g : Nat} {vs : Array Value} {t : TypeId} {fr : Nat × Nat} (hb : w.heap[g]? = some (.cells vs t fr)) {xs : List (List Int)} (hn : xs.length ≤ 9223372036854775807)
    (h : ∀ (j : Nat) (x : List Int), xs[j]? = some x → ∃ A c, vs[j]? = some (.slice A x.length c) ∧ x.length ≤ c ∧ (Kd.int .u8).C w A x.length x) : (Kd.slice 5 (Kd.int .u8)).C w (some ⟨g, 0, none⟩) xs.length xs := by
  refine C_blk rfl hb hn fun j x hj => ?_
  obtain ⟨A, c, h1, h2, h3⟩ := h j x hj
  exact ⟨_, by rw [Nat.zero_add]; exact h1, K_bytes h3 h2⟩
set_option maxHeartbeats 400000 in
set_option maxRecDepth 100000 in
theorem sum_calls (r : Rec) (A : Option Addr) (c : Nat) (w : World) (h : (Kd.int .u8).C w A r.2.length r.2) (hc : r.2.length ≤ c) :
    Calls Tryz.prog 59 #[.agg #[.int .i64 r.1, .slice A r.2.length c]] w fun e w' => e = .returned (.int .u32 (sumR r)) ∧ Below w.heap.size w w' := by
  have hu49 := Tryz.underlying56
  obtain ⟨k, l⟩ := r
  simp only at h hc
  have H := Aside0.mk h
  clear h
  go_enter Tryz.func59, Tryz.ntmps59
  go_wp2_with fail
  refine (Join_calls (some ⟨w.heap.size + 1 + 1, 0, none⟩) 2 [[k % 256], l] _ ?_ (by simp)).mono ?_
  · refine C_rows (heap_at (by simp)) (by simp) (fun j x hj => ?_)
    match j, hj with
    | 0, hj =>
      obtain rfl : [k % 256] = x := by simpa using hj
      exact ⟨_, _, rfl, Nat.le_refl 1, C_lit [k % 256] (blk_alloc (heap_at (by simp)) _) rfl (by simp)⟩
    | 1, hj =>
      obtain rfl : l = x := by simpa using hj
      exact ⟨_, _, rfl, hc, Kd.C_below H.out (below_alloc (below_alloc (below_alloc (Below.refl _ _) _) _) _)⟩
  rintro e w' ⟨rfl, hd⟩
  go_wp2_with fail
  go_ret
  refine ⟨?_, below_step (below_alloc (below_alloc (below_alloc (Below.refl _ _) _) _) _) hd.below⟩
  simp [sumR]
set_option maxHeartbeats 400000 in
set_option maxRecDepth 100000 in
/-- slices.Grow of nothing: an empty row with room. -/
theorem Grow_nil (n : Nat) (h0 : 0 < n) (hn : n ≤ 1000000) (w : World) :
    Calls Tryz.prog 82 #[.slice none 0 0, .int .i64 n] w fun e w' => ∃ v, e = .returned v ∧ OwnB w' w.heap.size v [] ∧ Below w.heap.size w w' := by
  have q1 : decide ((n : Int) < 0) = false := decide_eq_false (by omega)
  have q2 : decide (0 < (n : Int)) = true := decide_eq_true (by omega)
  have HB := Aside0.mk (Below.refl w.heap.size w)
  go_enter Tryz.func82, Tryz.ntmps82
  go_wp2_with (at_builtin; go_must (refine Kd.R_append_zeros (Kd.int .u8) w.heap.size rfl (.tmp 20) (.tmp 21) 29 3 5 (.int .u8 0) 1 rfl Tryz.underlying29 Tryz.underlying3 info5 rfl (by decide) (by decide) _ [] 0 n (fun _ => True) rfl rfl rfl (fun _ _ => trivial) (Kd.R_nil _ _ _ _ _) (by omega) HB.out (Nat.le_refl _) (by simp; omega) ?_); go_must (intro v1 w1 R1 B1 G1 _; have O1 := Kd.own_of_R R1; clear R1 G1; have O2 : OwnB w1 w.heap.size v1 ([] ++ List.replicate (n : Int).toNat 0) := O1; rw [List.nil_append, Int.toNat_natCast] at O2; clear O1; obtain ⟨A, c, rfl, kc, C1⟩ := O2.slice; have HO := Aside0.mk O2; have HB1 := Aside0.mk B1; clear O2 B1 C1; have ht := run_take A (List.replicate n (0 : Int)).length c 0 (by omega) (by omega) kc))
  go_ret
  refine ⟨_, rfl, ?_, HB1.out⟩
  exact own_take HO.out (Nat.zero_le _)
theorem atRows {w : World} {A : Option Addr} {n : Nat} {L : List (List Int)} (h : (Kd.slice 5 (Kd.int .u8)).C w A n L) (i : Nat) (hi : i < L.length) (hn : n = L.length) : ∃ ad A3 c3, A = some ad ∧ w.cell? (ad.add i) = some (.slice A3 L[i].length c3) ∧
    L[i].length ≤ c3 ∧ (Kd.int .u8).C w A3 L[i].length L[i] := by
  obtain ⟨ad, c, e, _, hK, hc⟩ := Kd.C_get h [] (i : Int) (by omega) (by omega)
  have e0 : L.getD (i : Int).toNat [] = L[i] := by
    rw [Int.toNat_natCast]
    simp [List.getD_eq_getElem?_getD, List.getElem?_eq_getElem hi]
  rw [e0] at hK
  obtain ⟨A3, c3, rfl, l3, g3⟩ := hK
  refine ⟨ad, A3, c3, e, ?_, l3, g3⟩
  have := hc 0 _ rfl
  rwa [show (i : Int).toNat * (Kd.slice 5 (Kd.int .u8)).sz + 0 = i by rw [show (Kd.slice 5 (Kd.int .u8)).sz = 1 from rfl]; omega] at this
def sumTo (L : List (List Int)) (k : Nat) : Nat := (L.take k).flatten.length
theorem sumTo_succ (L : List (List Int)) (k : Nat) (h : k < L.length) : sumTo L (k + 1) = sumTo L k + L[k].length := by
  unfold sumTo
  rw [List.take_succ_eq_append_getElem h, List.flatten_append, List.length_append]
  congr 1
  simp
theorem sumTo_le (L : List (List Int)) (k : Nat) : sumTo L k ≤ L.flatten.length := by
  unfold sumTo
  have : L.flatten = (L.take k).flatten ++ (L.drop k).flatten := by rw [← List.flatten_append, List.take_append_drop]
  rw [this, List.length_append]
  exact Nat.le_add_right _ _
set_option maxHeartbeats 1000000 in
set_option maxRecDepth 100000 in
theorem Concat_calls (A : Option Addr) (c : Nat) (L : List (List Int)) (w : World) (h : (Kd.slice 5 (Kd.int .u8)).C w A L.length L) (_hc : L.length ≤ c) (h0 : 0 < L.flatten.length) (hn : L.flatten.length ≤ 1000000) (hl : L.length ≤ 1000) :
    Calls Tryz.prog 57 #[.slice A L.length c] w fun e w' => ∃ v, e = .returned v ∧ OwnB w' w.heap.size v L.flatten ∧ Below w.heap.size w w' := by
  have H := Aside0.mk h
  have HB := Aside0.mk (Below.refl w.heap.size w)
  clear h
  go_enter Tryz.func57, Tryz.ntmps57
  go_wp2_with fail
  go_loopw [3, 5, 11] (fun v3 v5 v11 wr => ∃ k : Nat, k ≤ L.length ∧ v3 = .int .i64 (sumTo L k) ∧ v11 = .int .i64 k ∧ Aside0 (Below w.heap.size w wr)) (fun _ _ v11 _ => L.length - (intOf v11).toNat)
  case atStart => exact ⟨0, by omega, rfl, rfl, HB⟩
  case round =>
    obtain ⟨k, hk, rfl, rfl, HB2⟩ := hrel
    clear HB
    by_cases hlt : k < L.length
    · obtain ⟨ad, A3, c3, rfl, e0, k3, C3⟩ := atRows (Kd.C_below H.out HB2.out) k hlt rfl
      clear C3
      have hs := sumTo_succ L k hlt
      have hs2 := sumTo_le L (k + 1)
      have HS := Aside0.mk hs
      obtain ⟨m, hm⟩ : ∃ m, m = L[k].length := ⟨_, rfl⟩
      rw [← hm] at e0 k3 hs
      have ew : IntKind.i64.wrap ((sumTo L k : Nat) + (m : Int)) = ((sumTo L (k + 1) : Nat) : Int) := by
        rw [hs, IntWalk.i64_in _ ⟨by omega, by omega⟩]
        omega
      clear hs hm
      have q3 : decide ((sumTo L (k + 1) : Int) < 0) = false := decide_eq_false (by omega)
      go_wp2_with fail
      go_roundw
      case rel => exact ⟨k + 1, by omega, rfl, by go_num, HB2⟩
      case measure => simp [intOf]; omega
    · have hkl : k = L.length := by omega
      subst hkl
      have es : sumTo L L.length = L.flatten.length := by unfold sumTo; rw [List.take_length]
      obtain ⟨T, hT⟩ : ∃ T, T = L.flatten.length := ⟨_, rfl⟩
      rw [← hT] at es h0 hn
      have HT := Aside0.mk hT
      clear hT hlt hk
      go_wp2_with (go_at_call 82; go_must (refine (Grow_nil T h0 hn _).mono ?_; rintro e w1 ⟨v, rfl, h, hb⟩; have HB3 := Aside0.mk (below_step HB2.out hb); have HO := Aside0.mk (h.lower HB2.out.size); clear HB2 h hb))
      go_loopw [6, 8, 27] (fun v6 v8 v27 wr => ∃ (k : Nat) (v : Value), v = v6 ∧ k ≤ L.length ∧ v27 = .int .i64 k ∧ Aside0 (Below w.heap.size w wr) ∧ Aside0 (OwnB wr w.heap.size v (L.take k).flatten)) (fun _ _ v27 _ => L.length - (intOf v27).toNat)
      case atStart => exact ⟨0, _, rfl, by omega, rfl, HB3, ⟨by rw [List.take_zero]; exact HO.out⟩⟩
      case round =>
        obtain ⟨k, v, rfl, hk, rfl, HB4, HO4⟩ := hrel
        clear HB3 HO
        by_cases hlt : k < L.length
        · obtain ⟨ad, A3, c3, rfl, e0, k3, C3⟩ := atRows (Kd.C_below H.out HB4.out) k hlt rfl
          obtain ⟨x, hx⟩ : ∃ x, x = L[k] := ⟨_, rfl⟩
          rw [← hx] at e0 k3 C3
          have HX := Aside0.mk (show (L.take k).flatten ++ x = (L.take (k + 1)).flatten by rw [hx, List.take_succ_eq_append_getElem hlt, List.flatten_append]; simp)
          have HC := Aside0.mk C3
          have HL := Aside0.mk (show (L.take k).flatten.length + x.length ≤ 140737488355328 by
            have := sumTo_le L (k + 1)
            unfold sumTo at this
            rw [← HX.out, List.length_append] at this
            have := HT.out
            omega)
          clear hx C3
          go_wp2_with (at_builtin; go_must (refine app_bytes w.heap.size rfl (.tmp 31) (.tmp 32) rfl v (L.take k).flatten x A3 x.length c3 rfl rfl rfl HO4.out HC.out HB4.out HB4.out.size HL.out ?_); go_must (intro v1 w1 O1 B1 G1; rw [HX.out] at O1; have HO5 := Aside0.mk O1; have HB5 := Aside0.mk B1; clear O1 B1 G1 HO4 HB4))
          go_roundw
          case rel => exact ⟨k + 1, _, rfl, by omega, by go_num, HB5, HO5⟩
          case measure => simp [intOf]; omega
        · have hkl : k = L.length := by omega
          subst hkl
          go_wp2_with fail
          go_ret
          exact ⟨_, rfl, by have := HO4.out; rwa [List.take_length] at this, HB4.out⟩
end Go.Proofs.YtmapdfommjcebaaGreat.Own
namespace Go.Proofs.YtmapdfommjcebaaGreat.Own
open Go.RowKit Go.Proofs.YtmapdfommjcebaaGreatW.PrintWords
/-- The length that a head tells. -/
def headN (b : List Int) : Nat := (b.getD 2 0 * 256 + b.getD 3 0).toNat
/-- Is there a whole one, by its two ends? -/
def whole (b : List Int) : Prop := 9 ≤ b.length ∧ b.getD 0 0 = 90 ∧ headN b + 9 ≤ b.length ∧ b.getD (headN b + 8) 0 = 165
instance (b : List Int) : Decidable (whole b) := by unfold whole; infer_instance
def headR (b : List Int) : Rec := (b.getD 1 0, (b.drop 4).take (headN b))
/-- The record that bytes begin with, how many it has, and what is wrong. -/
def nextR (b : List Int) : Rec × Nat × Int :=
  if ¬ whole b then ((0, []), 0, 0)
  else if ¬ okR (headR b) then ((0, []), 0, 3)
  else if fourB (sumR (headR b)) ≠ (b.drop (4 + headN b)).take 4 then ((0, []), 0, 9)
  else (headR b, headN b + 9, 0)
/-- All records, where they end, and what is wrong there. -/
def readAll : Nat → List Int → List Rec × Nat × Int
  | 0, _ => ([], 0, 0)
  | f + 1, b => if 0 < (nextR b).2.1 then ((nextR b).1 :: (readAll f (b.drop (nextR b).2.1)).1, (nextR b).2.1 + (readAll f (b.drop (nextR b).2.1)).2.1, (readAll f (b.drop (nextR b).2.1)).2.2) else ([], 0, (nextR b).2.2)
def readR (b : List Int) : List Rec × Nat × Int := readAll b.length b
theorem next_pos {b : List Int} (h : 0 < (nextR b).2.1) : nextR b = (headR b, headN b + 9, 0) ∧ whole b ∧ okR (headR b) ∧ fourB (sumR (headR b)) = (b.drop (4 + headN b)).take 4 := by
  unfold nextR at h ⊢
  by_cases h1 : whole b
  · rw [if_neg (not_not_intro h1)] at h ⊢
    by_cases h2 : okR (headR b)
    · rw [if_neg (not_not_intro h2)] at h ⊢
      by_cases h3 : fourB (sumR (headR b)) ≠ (b.drop (4 + headN b)).take 4
      · rw [if_pos h3] at h
        simp at h
      · rw [if_neg h3] at h ⊢
        exact ⟨rfl, h1, h2, Decidable.not_not.1 h3⟩
    · rw [if_pos h2] at h
      simp at h
  · rw [if_pos h1] at h
    simp at h
theorem next_le {b : List Int} (h : 0 < (nextR b).2.1) : 9 ≤ (nextR b).2.1 ∧ (nextR b).2.1 ≤ b.length := by
  obtain ⟨e, hw, _⟩ := next_pos h
  rw [e]
  have := hw.2.2.1
  simp only
  omega
theorem readAll_fuel : ∀ (f : Nat) (b : List Int), b.length ≤ f → readAll f b = readAll b.length b := by
  intro f
  induction f using Nat.strongRecOn with
  | ind f ih =>
    intro b hb
    match f, hb with
    | 0, hb =>
      have : b.length = 0 := by omega
      rw [this]
    | f + 1, hb =>
      by_cases hn : 0 < (nextR b).2.1
      · have hl := next_le hn
        obtain ⟨m, hm⟩ : ∃ m, b.length = m + 1 := ⟨b.length - 1, by omega⟩
        rw [hm]
        unfold readAll
        rw [if_pos hn, if_pos hn]
        have hd : (b.drop (nextR b).2.1).length = b.length - (nextR b).2.1 := List.length_drop
        rw [ih f (by omega) _ (by omega)]
        by_cases hmf : m = f
        · subst hmf
          rw [ih m (by omega) _ (by omega)]
        · rw [ih m (by omega) _ (by omega)]
      · match hm : b.length with
        | 0 =>
          unfold readAll
          rw [if_neg hn]
          have e : b = [] := List.eq_nil_of_length_eq_zero hm
          subst e
          rfl
        | m + 1 =>
          unfold readAll
          rw [if_neg hn, if_neg hn]
theorem readR_step {b : List Int} (h : 0 < (nextR b).2.1) : readR b = ((nextR b).1 :: (readR (b.drop (nextR b).2.1)).1, (nextR b).2.1 + (readR (b.drop (nextR b).2.1)).2.1, (readR (b.drop (nextR b).2.1)).2.2) := by
  have hl := next_le h
  unfold readR
  obtain ⟨m, hm⟩ : ∃ m, b.length = m + 1 := ⟨b.length - 1, by omega⟩
  rw [hm]
  conv => lhs; unfold readAll
  rw [if_pos h, readAll_fuel m _ (by rw [List.length_drop]; omega)]
theorem readR_stop {b : List Int} (h : (nextR b).2.1 = 0) : readR b = ([], 0, (nextR b).2.2) := by
  unfold readR
  match hm : b.length with
  | 0 =>
    have e : b = [] := List.eq_nil_of_length_eq_zero hm
    subst e
    rfl
  | m + 1 =>
    unfold readAll
    rw [if_neg (by omega)]
theorem readR_len (b : List Int) : (readR b).2.1 ≤ b.length := by
  induction hn : b.length using Nat.strongRecOn generalizing b with
  | ind n ih =>
    by_cases h : 0 < (nextR b).2.1
    · have hl := next_le h
      rw [readR_step h]
      have := ih (b.drop (nextR b).2.1).length (by rw [List.length_drop]; omega) _ rfl
      rw [List.length_drop] at this
      simp only
      omega
    · rw [readR_stop (by omega)]
      exact Nat.zero_le _
theorem frameR_len {r : Rec} : (frameR r).length = r.2.length + 9 := by
  simp [frameR, fourB]
theorem frame_cons (r : Rec) (t : List Int) : frameR r ++ t = 90 :: (r.1 % 256) :: ((r.2.length : Int) / 256 % 256) :: ((r.2.length : Int) % 256) :: (r.2 ++ (fourB (sumR r) ++ (165 :: t))) := by
  simp [frameR]
theorem headN_frame {r : Rec} (h : okR r) (t : List Int) : headN (frameR r ++ t) = r.2.length := by
  rw [frame_cons]
  unfold headN
  simp only [List.getD_cons_succ, List.getD_cons_zero]
  have := h.2.2
  omega
theorem headR_frame {r : Rec} (h : okR r) (t : List Int) : headR (frameR r ++ t) = r := by
  unfold headR
  rw [headN_frame h, frame_cons]
  simp only [List.getD_cons_succ, List.getD_cons_zero, List.drop_succ_cons, List.drop_zero]
  rw [List.take_left' rfl]
  have h1 := h.1
  have h2 := h.2.1
  exact Prod.ext (by simp only; omega) rfl
theorem whole_frame {r : Rec} (h : okR r) (t : List Int) : whole (frameR r ++ t) := by
  refine ⟨by rw [List.length_append, frameR_len]; omega, by rw [frame_cons]; rfl, by rw [headN_frame h, List.length_append, frameR_len]; omega, ?_⟩
  rw [headN_frame h, List.getD_eq_getElem?_getD]
  have e : frameR r ++ t = ([90, r.1 % 256, (r.2.length : Int) / 256 % 256, (r.2.length : Int) % 256] ++ r.2 ++ fourB (sumR r)) ++ (165 :: t) := by simp [frameR]
  rw [e, List.getElem?_append_right (by simp [fourB])]
  simp [fourB]
theorem four_frame {r : Rec} (t : List Int) : ((frameR r ++ t).drop (4 + r.2.length)).take 4 = fourB (sumR r) := by
  have e : frameR r ++ t = ([90, r.1 % 256, (r.2.length : Int) / 256 % 256, (r.2.length : Int) % 256] ++ r.2) ++ (fourB (sumR r) ++ (165 :: t)) := by simp [frameR]
  rw [e, List.drop_left' (by simp; omega), List.take_left' (by simp [fourB])]
theorem next_frame {r : Rec} (h : okR r) (t : List Int) : nextR (frameR r ++ t) = (r, r.2.length + 9, 0) := by
  unfold nextR
  rw [if_neg (not_not_intro (whole_frame h t)), headR_frame h, if_neg (not_not_intro h), headN_frame h, four_frame, if_neg (not_not_intro rfl)]
theorem read_frame {r : Rec} (h : okR r) (t : List Int) : readR (frameR r ++ t) = (r :: (readR t).1, r.2.length + 9 + (readR t).2.1, (readR t).2.2) := by
  have hp : 0 < (nextR (frameR r ++ t)).2.1 := by rw [next_frame h]; exact Nat.succ_pos _
  rw [readR_step hp, next_frame h]
  have e : (frameR r ++ t).drop (r.2.length + 9) = t := List.drop_left' frameR_len
  simp only [e]
/-- Of frames, and what stands behind them. -/
theorem read_frames : ∀ (L : List Rec) (_ : ∀ r ∈ L, okR r) (t : List Int), readR ((L.map frameR).flatten ++ t) = (L ++ (readR t).1, (L.map frameR).flatten.length + (readR t).2.1, (readR t).2.2)
  | [], _, t => by simp
  | r :: L, h, t => by
    have ih := read_frames L (fun x hx => h x (List.mem_cons_of_mem _ hx)) t
    have e : ((r :: L).map frameR).flatten ++ t = frameR r ++ ((L.map frameR).flatten ++ t) := by simp
    rw [e, read_frame (h r (by simp)), ih]
    simp only [List.map_cons, List.flatten_cons, List.length_append, frameR_len, List.cons_append]
    simp [Nat.add_assoc]
theorem getD_torn (l : List Int) (m k i : Nat) : (l.take m ++ List.replicate k 0).getD i 0 = if i < m then l.getD i 0 else 0 := by
  rw [List.getD_eq_getElem?_getD, List.getD_eq_getElem?_getD]
  by_cases h : i < m
  · rw [if_pos h]
    by_cases hl : i < l.length
    · rw [List.getElem?_append_left (by rw [List.length_take]; omega), List.getElem?_take_of_lt h]
    · rw [List.getElem?_append_right (by rw [List.length_take]; omega), List.getElem?_eq_none (by omega : l.length ≤ i), List.getElem?_replicate]
      split <;> rfl
  · rw [if_neg h, List.getElem?_append_right (by rw [List.length_take]; omega), List.getElem?_replicate]
    split <;> rfl
/-- A frame of which the last byte is lost, and noughts behind: there is no whole one. -/
theorem torn_stop {r : Rec} (h : okR r) (m k : Nat) (hm : m ≤ r.2.length + 8) : nextR ((frameR r).take m ++ List.replicate k 0) = ((0, []), 0, 0) := by
  unfold nextR
  rw [if_pos]
  rintro ⟨_, _, _, h4⟩
  have hlen := h.2.2
  have e2 : (frameR r).getD 2 0 = (r.2.length : Int) / 256 % 256 := by simp [frameR]
  have e3 : (frameR r).getD 3 0 = (r.2.length : Int) % 256 := by simp [frameR]
  have hn : m ≤ headN ((frameR r).take m ++ List.replicate k 0) + 8 := by
    unfold headN
    rw [getD_torn, getD_torn, e2, e3]
    by_cases h2 : 2 < m
    · by_cases h3 : 3 < m
      · rw [if_pos h2, if_pos h3]
        omega
      · omega
    · omega
  rw [getD_torn, if_neg (by omega)] at h4
  cases h4
def framesOf (L : List Rec) : List Int := (L.map frameR).flatten
theorem framesOf_cons (r : Rec) (L : List Rec) : framesOf (r :: L) = frameR r ++ framesOf L := by simp [framesOf]
theorem zero_stop (k : Nat) : readR (List.replicate k 0) = ([], 0, 0) := by
  have e : nextR (List.replicate k 0) = ((0, []), 0, 0) := by
    unfold nextR
    rw [if_pos]
    rintro ⟨_, h, _⟩
    rw [List.getD_eq_getElem?_getD, List.getElem?_replicate] at h
    split at h <;> cases h
  rw [readR_stop (by rw [e]), e]
theorem read_torn : ∀ (L : List Rec) (_ : ∀ r ∈ L, okR r) (last k : Nat) (_ : last ≤ (framesOf L).length), ∃ j, j ≤ L.length ∧ (framesOf (L.take j)).length ≤ last ∧ (j < L.length → last < (framesOf (L.take (j + 1))).length) ∧
    readR ((framesOf L).take last ++ List.replicate k 0) = (L.take j, (framesOf (L.take j)).length, 0)
  | [], _, last, k, hl => by
    refine ⟨0, Nat.le_refl _, Nat.zero_le _, fun h => absurd h (Nat.lt_irrefl _), ?_⟩
    simpa [framesOf] using zero_stop k
  | r :: L, h, last, k, hl => by
    have hr := h r (by simp)
    by_cases hc : (frameR r).length ≤ last
    · obtain ⟨j, h1, h2, h3, h4⟩ := read_torn L (fun x hx => h x (List.mem_cons_of_mem _ hx)) (last - (frameR r).length) k (by rw [framesOf_cons, List.length_append] at hl; omega)
      refine ⟨j + 1, by simpa using h1, ?_, fun hj => ?_, ?_⟩
      · rw [List.take_succ_cons, framesOf_cons, List.length_append]
        omega
      · rw [List.take_succ_cons, framesOf_cons, List.length_append]
        have := h3 (by simpa using hj)
        omega
      · rw [framesOf_cons, List.take_append, List.take_of_length_le hc, List.append_assoc, read_frame hr, h4, List.take_succ_cons, framesOf_cons, List.length_append, frameR_len]
    · refine ⟨0, Nat.zero_le _, Nat.zero_le _, fun _ => ?_, ?_⟩
      · rw [List.take_succ_cons, framesOf_cons, List.length_append]
        omega
      · have e := torn_stop hr last k (by rw [frameR_len] at hc; omega)
        rw [framesOf_cons, List.take_append_of_le_length (by omega), readR_stop (by rw [e]), e]
        rfl
theorem fa_next : nextR ((frameR (3, [97, 98])).set 4 120) = ((0, []), 0, 9) := by decide +kernel
theorem fa_first : (frameR (3, [97, 98])).getD 0 0 = 90 ∧ (frameR (3, [97, 98])).getD 10 0 = 165 ∧ (frameR (3, [97, 98])).length = 11 := by decide +kernel
theorem fa_cut : nextR ((frameR (3, [97, 98])).take 10) = ((0, []), 0, 0) := by decide +kernel
theorem fa_read : readR (frameR (3, [97, 98]) ++ [0, 0]) = ([(3, [97, 98])], 11, 0) := by
  rw [read_frame (by decide)]
  rfl
end Go.Proofs.YtmapdfommjcebaaGreat.Own
namespace Go.Proofs.YtmapdfommjcebaaGreat.Own
open Go.RowKit Go.Proofs.YtmapdfommjcebaaGreatW.PrintWords Go.Proofs.YtmapdfommjcebaaGreatW.PrintLast Go.Proofs.YtmapdfommjcebaaGreatW.PrintMore
set_option maxHeartbeats 1000000 in
set_option maxRecDepth 100000 in
theorem Write_bad (r : Rec) (A : Option Addr) (c : Nat) (w : World) (h : (Kd.int .u8).C w A r.2.length r.2) (hc : r.2.length ≤ c) (hr : ¬ okR r) :
    Calls Tryz.prog 27 #[.agg #[.int .i64 r.1, .slice A r.2.length c]] w fun e w' => e = .returned (.tuple #[.slice none 0 0, .int .i64 3]) ∧ Below w.heap.size w w' := by
  have hu49 := Tryz.underlying56
  obtain ⟨k, l⟩ := r
  simp only at h hc
  have H := Aside0.mk h
  have HR := Aside0.mk hr
  have hd : decide (okR (k, l)) = false := decide_eq_false hr
  clear h hr
  go_enter Tryz.func27, Tryz.ntmps27
  go_wp2_with (go_at_call 56; go_must (refine (Right_calls (k, l) A c _ (by exact Kd.C_below H.out (below_alloc (Below.refl _ _) _)) hc).mono ?_; rw [hd]; rintro e w1 ⟨rfl, hb⟩; have HB := Aside0.mk (below_step (below_alloc (Below.refl _ _) _) hb); clear hb))
  go_ret2
  exact ⟨rfl, HB.out⟩
theorem blk_drew {w : World} {g : Nat} {o : Obj} (h : w.heap[g]? = some o) : w.drew.heap[g]? = some o := h
theorem cells_box {w : World} {g : Nat} {k : Int} {A : Option Addr} {n c : Nat} (h : w.heap[g]? = some (.cells #[.int .i64 k, .slice A n c] 56 (0, 0))) : w.cell? ⟨g, 0, none⟩ = some (.int .i64 k) ∧ w.cell? ⟨g, 1, none⟩ = some (.slice A n c) :=
  ⟨cell_of_row w g 0 _ _ _ h, cell_of_row w g 1 _ _ _ h⟩
theorem C_four {w : World} {g : Nat} {t : TypeId} {fr : Nat × Nat} {A0 A1 A2 A3 : Option Addr} {n0 n1 n2 n3 c0 c1 c2 c3 : Nat} {x0 x1 x2 x3 : List Int} (hb : w.heap[g]? = some (.cells #[.slice A0 n0 c0, .slice A1 n1 c1, .slice A2 n2 c2, .slice A3 n3 c3] t fr))
    (e0 : n0 = x0.length) (e1 : n1 = x1.length) (e2 : n2 = x2.length) (e3 : n3 = x3.length) (k0 : x0.length ≤ c0) (k1 : x1.length ≤ c1) (k2 : x2.length ≤ c2) (k3 : x3.length ≤ c3)
    (h0 : (Kd.int .u8).C w A0 x0.length x0) (h1 : (Kd.int .u8).C w A1 x1.length x1) (h2 : (Kd.int .u8).C w A2 x2.length x2) (h3 : (Kd.int .u8).C w A3 x3.length x3) :
    (Kd.slice 5 (Kd.int .u8)).C w (some ⟨g, 0, none⟩) [x0, x1, x2, x3].length [x0, x1, x2, x3] := by
  subst e0 e1 e2 e3
  refine C_rows hb (by simp) (fun j x hj => ?_)
  match j, hj with
  | 0, hj =>
    obtain rfl : x0 = x := by simpa using hj
    exact ⟨_, _, rfl, k0, h0⟩
  | 1, hj =>
    obtain rfl : x1 = x := by simpa using hj
    exact ⟨_, _, rfl, k1, h1⟩
  | 2, hj =>
    obtain rfl : x2 = x := by simpa using hj
    exact ⟨_, _, rfl, k2, h2⟩
  | 3, hj =>
    obtain rfl : x3 = x := by simpa using hj
    exact ⟨_, _, rfl, k3, h3⟩
theorem frame_len {r : Rec} : (frameR r).length = r.2.length + 9 := by
  simp [frameR, fourB]
set_option maxHeartbeats 4000000 in
set_option maxRecDepth 100000 in
theorem Write_ok (r : Rec) (A : Option Addr) (c : Nat) (w : World) (h : (Kd.int .u8).C w A r.2.length r.2) (hc : r.2.length ≤ c) (hr : okR r) :
    Calls Tryz.prog 27 #[.agg #[.int .i64 r.1, .slice A r.2.length c]] w fun e w' => ∃ v, e = .returned (.tuple #[v, .int .i64 0]) ∧ OwnB w' w.heap.size v (frameR r) ∧ Below w.heap.size w w' := by
  have hu49 := Tryz.underlying56
  obtain ⟨k, l⟩ := r
  simp only at h hc
  have H := Aside0.mk h
  have HR := Aside0.mk hr
  have hd : decide (okR (k, l)) = true := decide_eq_true hr
  clear h hr
  go_enter Tryz.func27, Tryz.ntmps27
  go_wp2_with (go_at_call 56; go_must (refine (Right_calls (k, l) A c _ (by exact Kd.C_below H.out (below_alloc (Below.refl _ _) _)) hc).mono ?_; rw [hd]; rintro e w1 ⟨rfl, hb⟩; have HB := Aside0.mk (below_step (below_alloc (Below.refl _ _) _) hb); have c0 := cell_of_row w1 w.heap.size 0 _ _ _ (blk_below (heap_at rfl) hb); have c1 := cell_of_row w1 w.heap.size 1 _ _ _ (blk_below (heap_at rfl) hb); have c2 : w1.cell? ⟨w.heap.size, 0, none⟩ = some (.int .i64 k) := c0; have c3 : w1.cell? ⟨w.heap.size, 1, none⟩ = some (.slice A l.length c) := c1; have hg : w.heap.size < w1.heap.size := blk_lt (blk_below (heap_at rfl) hb); have HX := Aside0.mk (blk_below (heap_at (o := .cells #[Value.int .i64 k, Value.slice A l.length c] 56 (0, 0)) rfl) hb); clear hb c0 c1))
  have hlen : l.length ≤ 60000 := HR.out.2.2
  have hbx := Aside0.mk (show w1.heap[w.heap.size]? = some (.cells #[Value.int .i64 k, Value.slice A l.length c] 56 (0, 0)) from HX.out)
  clear HX
  go_region_held3 (fun w' => w'.cell? ⟨w.heap.size, 0, none⟩ = some (.int .i64 k) ∧ w'.cell? ⟨w.heap.size, 1, none⟩ = some (.slice A l.length c))
    (first
      | (focus (refine cells_box ?_; (repeat (first | with_reducible refine blk_alloc ?_ _ | with_reducible refine blk_drew ?_ | with_reducible refine blk_below ?_ HF.out | with_reducible refine blk_below ?_ HS.out | exact hbx.out)); done))
      | (focus (refine cells_box ?_; (repeat (first | with_reducible refine blk_alloc ?_ _ | with_reducible refine blk_drew ?_ | with_reducible refine blk_below ?_ HZ1.out | with_reducible refine blk_below ?_ HF.out | with_reducible refine blk_below ?_ HS.out | exact hbx.out)); done))
      | (focus (refine cells_box ?_; (repeat (first | with_reducible refine blk_alloc ?_ _ | with_reducible refine blk_drew ?_ | with_reducible refine blk_below ?_ HS.out | exact hbx.out)); done))
      | (focus (refine cells_box ?_; (repeat (first | with_reducible refine blk_alloc ?_ _ | with_reducible refine blk_drew ?_ | exact hbx.out)); done)))
    (first
    | (go_at_call 59; go_must (refine (sum_calls (k, l) A c _ (by exact Kd.C_below H.out (by repeat (first | exact HB.out | apply below_alloc | with_reducible apply Below.drew))) hc).mono ?_; rintro e w2 ⟨rfl, hb⟩; have HS := Aside0.mk hb; have HB2 := Aside0.mk (below_step (by repeat (first | exact HB.out | apply below_alloc | with_reducible apply Below.drew)) hb); clear hb))
    | (go_at_call 58; go_must (refine (four_calls _ _).mono ?_; rintro e w3 ⟨v4, rfl, O4, hb⟩; have HF := Aside0.mk hb; have HB3 := Aside0.mk (below_step (by repeat (first | exact HB2.out | apply below_alloc | with_reducible apply Below.drew)) hb); obtain ⟨f4, hf4⟩ : ∃ f4, f4 = fourB (sumR (k, l)) := ⟨_, rfl⟩; rw [← hf4] at O4; have HF4 := Aside0.mk hf4; clear hf4; obtain ⟨A4, c4, rfl, k4, C4⟩ := O4.slice; have HC4 := Aside0.mk C4; clear hb C4 O4))
    | (go_at_call 57; go_must (refine (Concat_calls _ 4 [[90, k % 256, (l.length : Int) / 256 % 256, (l.length : Int) % 256], l, f4, [165]] _ (by exact C_four (by repeat (first | (refine heap_at ?_; first | rfl | (simp; done)) | with_reducible refine blk_alloc ?_ _ | with_reducible refine blk_drew ?_ | with_reducible refine blk_below ?_ HF.out | with_reducible refine blk_below ?_ HS.out)) rfl rfl rfl rfl (by simp) hc k4 (by simp) (C_lit [90, k % 256, (l.length : Int) / 256 % 256, (l.length : Int) % 256] (by repeat (first | (refine heap_at ?_; first | rfl | (simp; done)) | with_reducible refine blk_alloc ?_ _ | with_reducible refine blk_drew ?_ | with_reducible refine blk_below ?_ HF.out | with_reducible refine blk_below ?_ HS.out)) (by simp [nums, IntKind.wrap_u8]) (by simp)) (Kd.C_below H.out (by repeat (first | exact HB3.out | apply below_alloc | with_reducible apply Below.drew))) (Kd.C_below HC4.out (by repeat (first | exact Below.refl _ _ | apply below_alloc | with_reducible apply Below.drew))) (C_lit [165] (by repeat (first | (refine heap_at ?_; first | rfl | (simp; done)) | with_reducible refine blk_alloc ?_ _ | with_reducible refine blk_drew ?_ | with_reducible refine blk_below ?_ HF.out | with_reducible refine blk_below ?_ HS.out)) rfl (by simp))) (by simp) (by simp) (by rw [HF4.out]; simp [fourB]; omega) (by simp)).mono ?_; rintro e w4 ⟨v, rfl, O5, hb⟩; have HZ := Aside0.mk (below_step (by repeat (first | exact HB3.out | apply below_alloc | with_reducible apply Below.drew)) hb); have HO := Aside0.mk (show OwnB w4 w.heap.size v _ from O5.lower (by have := HB3.out.size; simp; omega)); have HZ1 := Aside0.mk hb; clear O5 hb)))
  all_goals
    go_wp2_with fail
    go_ret2
    refine ⟨v, rfl, ?_, HZ.out⟩
    have e : frameR (k, l) = [[90, k % 256, (l.length : Int) / 256 % 256, (l.length : Int) % 256], l, f4, [165]].flatten := by rw [HF4.out]; simp [frameR]
    rw [e]
    exact HO.out
end Go.Proofs.YtmapdfommjcebaaGreat.Own
namespace Go.Proofs.YtmapdfommjcebaaGreat.Own
open Go.RowKit Go.Proofs.YtmapdfommjcebaaGreatW.PrintWords Go.Proofs.YtmapdfommjcebaaGreatW.PrintLast Go.Proofs.YtmapdfommjcebaaGreatW.PrintMore
/-- What next hands back: a record in bytes of its own. -/
def NextV (w w' : World) (x : Rec × Nat × Int) (e : Ending) : Prop := ∃ v, e = .returned (.tuple #[.agg #[.int .i64 x.1.1, v], .int .i64 x.2.1, .int .i64 x.2.2]) ∧ OwnB w' w.heap.size v x.1.2 ∧ Below w.heap.size w w'
theorem heap7 {w : World} {o1 o2 : Obj} : ((w.alloc o1).drew.drew.alloc o2).heap[w.heap.size + 1]? = some o2 := heap_at (by simp)
theorem size2 {w : World} {o : Obj} : (w.alloc o).drew.drew.heap.size = w.heap.size + 1 := by simp
theorem size3 {w : World} {o o2 : Obj} : ((w.alloc o).drew.drew.alloc o2).heap.size = w.heap.size + 2 := by simp
theorem own_put2 {w : World} {base g b : Nat} {v : Value} {xs : List Int} {u0 u1 : Value} (h : OwnB w base v xs) (hg : g < base) (hb : b ≤ base) : OwnB ((w.setCell ⟨g, 0, none⟩ u0).setCell ⟨g, 1, none⟩ u1) b v xs :=
  (h.chg (S := fun k => k = g) (((Chg.refl (fun k => k = g) w).setCell (p := ⟨g, 0, none⟩) (.inl rfl) u0).setCell (p := ⟨g, 1, none⟩) (.inl rfl) u1) (fun k hk e => by have := own_base h k hk; omega)).lower hb
theorem or_bytes {x y : Int} (h1 : 0 ≤ x) (h2 : x < 256) (h3 : 0 ≤ y) (h4 : y < 256) : bits .or .i64 (x * 256) y = x * 256 + y := by
  have e16 : (2 : Int) ^ 16 = 65536 := by decide
  have e8 : (2 : Int) ^ 8 = 256 := by decide
  exact bits_join .i64 16 (by decide) (fun n a b => by rw [e16] at b; exact IntWalk.i64_in n ⟨by omega, by omega⟩) 8 (x * 256) y (by omega) (by rw [e8]; omega) (by rw [e16]; omega) h3 (by rw [e8]; omega) (by rw [e16]; omega)
theorem at_byte {w : World} {A : Option Addr} {b : List Int} (h : (Kd.int .u8).C w A b.length b) (hb : ∀ x ∈ b, 0 ≤ x ∧ x < 256) (i : Nat) (hi : i < b.length) :
    ∃ ad, A = some ad ∧ w.cell? (ad.add i) = some (.int .u8 (b.getD i 0)) ∧ 0 ≤ b.getD i 0 ∧ b.getD i 0 < 256 := by
  obtain ⟨ad, e, hc⟩ := Kd.at_int h (i : Int) (by omega) (by omega)
  have e1 : b.getD i 0 = b[i] := by simp [List.getD_eq_getElem?_getD, List.getElem?_eq_getElem hi]
  have := hb b[i] (List.getElem_mem hi)
  refine ⟨ad, e, ?_, by rw [e1]; exact this.1, by rw [e1]; exact this.2⟩
  simpa [rd] using hc
set_option maxHeartbeats 1000000 in
set_option maxRecDepth 100000 in
theorem next_calls (A : Option Addr) (c : Nat) (b : List Int) (w : World) (h : (Kd.int .u8).C w A b.length b) (hc : b.length ≤ c) (hb : ∀ x ∈ b, 0 ≤ x ∧ x < 256) :
    Calls Tryz.prog 38 #[.slice A b.length c] w fun e w' => NextV w w' (nextR b) e := by
  have hu49 := Tryz.underlying56
  have H := Aside0.mk h
  have hm := h.2.1
  by_cases h9 : 9 ≤ b.length
  · have hw := below_alloc (Below.refl w.heap.size w) (.cells #[Value.int .i64 0, Value.slice none 0 0] 56)
    obtain ⟨ad, rfl, d0, r0, s0⟩ := at_byte h hb 0 (by omega)
    obtain ⟨ad1, e1, d1, r1, s1⟩ := at_byte h hb 1 (by omega)
    obtain ⟨ad2, e2, d2, r2, s2⟩ := at_byte h hb 2 (by omega)
    obtain ⟨ad3, e3, d3, r3, s3⟩ := at_byte h hb 3 (by omega)
    cases e1
    cases e2
    cases e3
    replace d0 := pw_cell_below hw d0
    rw [show ad.add 0 = ad by simp [Addr.add]] at d0
    replace d1 := pw_cell_below hw d1
    replace d2 := pw_cell_below hw d2
    replace d3 := pw_cell_below hw d3
    rw [show ad.add 1 = ⟨ad.block, ad.off + 1, none⟩ by simp [Addr.add]] at d1
    rw [show ad.add 2 = ⟨ad.block, ad.off + 2, none⟩ by simp [Addr.add]] at d2
    rw [show ad.add 3 = ⟨ad.block, ad.off + 3, none⟩ by simp [Addr.add]] at d3
    have i1 : (1 : Int) < (b.length : Int) := by omega
    have i2 : (2 : Int) < (b.length : Int) := by omega
    have i3 : (3 : Int) < (b.length : Int) := by omega
    clear h hw
    obtain ⟨x0, hx0⟩ : ∃ x, x = b.getD 0 0 := ⟨_, rfl⟩
    obtain ⟨x1, hx1⟩ : ∃ x, x = b.getD 1 0 := ⟨_, rfl⟩
    obtain ⟨x2, hx2⟩ : ∃ x, x = b.getD 2 0 := ⟨_, rfl⟩
    obtain ⟨x3, hx3⟩ : ∃ x, x = b.getD 3 0 := ⟨_, rfl⟩
    rw [← hx0] at d0 r0 s0
    rw [← hx1] at d1 r1 s1
    rw [← hx2] at d2 r2 s2
    rw [← hx3] at d3 r3 s3
    have X0 := Aside0.mk hx0
    have X1 := Aside0.mk hx1
    have X2 := Aside0.mk hx2
    have X3 := Aside0.mk hx3
    clear hx0 hx1 hx2 hx3
    have q1 : decide ((b.length : Int) < 9) = false := decide_eq_false (by omega)
    have q2 : ¬ b.length < 9 := by omega
    by_cases h0 : x0 = 90
    · subst h0
      obtain ⟨n, hn⟩ : ∃ n, n = headN b := ⟨_, rfl⟩
      have hor : bits .or .i64 (x2 * 256) x3 = (n : Int) := by
        rw [or_bytes r2 s2 r3 s3, hn]
        unfold headN
        rw [← X2.out, ← X3.out]
        omega
      have n1 : n ≤ 65535 := by
        rw [hn]
        unfold headN
        rw [← X2.out, ← X3.out]
        omega
      have HN := Aside0.mk hn
      clear hn
      have u1 : IntKind.i64.wrap (4 + (n : Int)) = ((4 + n : Nat) : Int) := by rw [IntWalk.i64_in _ ⟨by omega, by omega⟩]; simp
      have u2 : IntKind.i64.wrap (((4 + n : Nat) : Int) + 5) = ((n + 9 : Nat) : Int) := by rw [IntWalk.i64_in _ ⟨by omega, by omega⟩]; omega
      have u3 : IntKind.i64.wrap (((n + 9 : Nat) : Int) - 1) = ((n + 8 : Nat) : Int) := by rw [IntWalk.i64_in _ ⟨by omega, by omega⟩]; omega
      by_cases hl : n + 9 ≤ b.length
      · have p1 : decide ((b.length : Int) < ((n + 9 : Nat) : Int)) = false := decide_eq_false (by omega)
        have p2 : ¬ b.length < n + 9 := by omega
        obtain ⟨ad8, e8, d8, r8, s8⟩ := at_byte H.out hb (n + 8) (by omega)
        cases e8
        replace d8 := pw_cell_below (below_alloc (Below.refl w.heap.size w) (.cells #[Value.int .i64 0, Value.slice none 0 0] 56)).drew d8
        rw [show ad.add (n + 8) = (⟨ad.block, ad.off + (4 + n + 3 + 1), none⟩ : Addr) by simp [Addr.add]; omega] at d8
        have i8 : (4 : Int) + (n : Int) + 5 - 1 < (b.length : Int) := by omega
        obtain ⟨x8, hx8⟩ : ∃ x, x = b.getD (n + 8) 0 := ⟨_, rfl⟩
        rw [← hx8] at d8 r8 s8
        have X8 := Aside0.mk hx8
        clear hx8
        by_cases h8 : x8 = 165
        · subst h8
          have hwh : whole b := ⟨h9, X0.out.symm, by rw [← HN.out]; exact hl, by rw [← HN.out]; exact X8.out.symm⟩
          have hr : headR b = (x1, (b.drop 4).take n) := by rw [X1.out, HN.out]; rfl
          obtain ⟨l, hl2⟩ : ∃ l, l = (b.drop 4).take n := ⟨_, rfl⟩
          rw [← hl2] at hr
          have ll : l.length = n := by rw [hl2, List.length_take, List.length_drop]; omega
          have hm1 := run_mid (some ad) b.length c 4 (4 + (n : Int)) (by omega) (by omega) (by omega) hc
          have C1 := Kd.C_mid (lo := 4) (hi := 4 + n) H.out (by omega) (by omega) hc
          have e1 : (b.take (4 + n)).drop 4 = l := by rw [hl2, List.drop_take]; congr 1; omega
          rw [e1] at C1
          obtain ⟨A1, hA1⟩ : ∃ A1, A1 = (if c = 4 then some ad else (some ad).map (·.add (4 * 1))) := ⟨_, rfl⟩
          have hm2 : ∀ W : World, (Instr.slice 29 (.slice (some ad) b.length c) (some (.int .i64 4)) (some (.int .i64 (4 + (n : Int)))) none).run Tryz.prog W = .ok (.slice A1 l.length (c - 4)) W := by
            intro W
            rw [hm1 W, hA1, ll]
            congr 2
            omega
          have hlt : ad.block < w.heap.size := by
            obtain ⟨ad', e', dd, _, _⟩ := at_byte H.out hb 1 (by omega)
            cases e'
            have := World.block_lt_of_cell? w _ dd
            simpa [Addr.add] using this
          have wx1 : IntKind.i64.wrap x1 = x1 := IntWalk.i64_in _ ⟨by omega, by omega⟩
          have hne : ad.block ≠ w.heap.size + 1 := by omega
          have hne2 : w.heap.size + 1 ≠ ad.block := by omega
          have HC1 := Aside0.mk (show (Kd.int .u8).C w A1 l.length l by rw [hA1]; exact C1)
          have HWH := Aside0.mk hwh
          have HHR := Aside0.mk hr
          have HLL := Aside0.mk ll
          clear hm1 C1 hA1 hl2 e1 hwh hr ll
          go_enter Tryz.func38, Tryz.ntmps38
          go_wp2_with fail
          go_region
          go_wp2_with fail
          go_cut [7] from 44 to 54 (fun v7 wx => ∃ (g7 : Nat) (A5 : Option Addr) (c5 : Nat), v7 = .pointer (some ⟨g7, 0, none⟩) ∧ l.length ≤ c5 ∧ w.heap.size < g7 ∧ Aside0 (wx.heap[g7]? = some (.cells #[.int .i64 x1, .slice A5 l.length c5] 56 (0, 0))) ∧
            Aside0 (wx.heap[w.heap.size]? = some (.cells #[.int .i64 0, .slice none 0 0] 56 (0, 0))) ∧ Aside0 (OwnB wx (w.heap.size + 1) (.slice A5 l.length c5) l) ∧ Aside0 (Below w.heap.size w wx))
          case first =>
            go_region_held3 (fun w' => w'.cell? ⟨ad.block, ad.off + 1, none⟩ = some (.int .u8 x1))
              (first
                | exact d1
                | exact dd1
                | go_keep)
              (first
                | (go_at_call 55; go_must (refine (Clone_calls A1 (c - 4) l _ (by exact Kd.C_below HC1.out (by repeat (first | exact Below.refl _ _ | apply below_alloc | with_reducible apply Below.drew))) (by have := HLL.out; omega)).mono ?_; rintro e w2 ⟨v, rfl, ho, hbb⟩; have hs := OwnB.slice ho; obtain ⟨A5, c5, hv, k5, _⟩ := hs; subst hv; have dd1 : w2.cell? ⟨ad.block, ad.off + 1, none⟩ = some (.int .u8 x1) := pw_cell_below hbb (by assumption); have hgb : w2.heap[w.heap.size]? = some (.cells #[.int .i64 0, .slice none 0 0] 56 (0, 0)) := blk_below (by repeat (first | (refine heap_at ?_; with_reducible rfl) | with_reducible refine blk_alloc ?_ _ | with_reducible refine blk_drew ?_)) hbb; have HGB := Aside0.mk hgb; have HO := Aside0.mk ho; have HB := Aside0.mk hbb; clear ho hgb; (first | (have hg7 : w2.heap[w.heap.size + 1]? = some (.cells #[.int .i64 0, .slice none 0 0] 56 (0, 0)) := blk_below heap7 hbb; have k70 : w2.cell? ⟨w.heap.size + 1, 0, none⟩ = some (.int .i64 0) := blk_cell hg7 0; have k71 : w2.cell? ⟨w.heap.size + 1, 1, none⟩ = some (.slice none 0 0) := blk_cell hg7 1; have z70 := blk_frozen hg7 0; have z71 := blk_frozen hg7 1; have HG7 := Aside0.mk hg7; clear hg7) | skip); clear hbb)))
            all_goals
              go_wp2_with fail
              go_meet
              first
                | exact ⟨_, A5, c5, rfl, k5, by have := HB.out.size; simp only [size2] at this; omega, ⟨heap_at rfl⟩, ⟨blk_alloc HGB.out _⟩, ⟨(HO.out.lower (by first | (simp; done) | (simp; omega))).below (below_alloc (Below.refl _ _) _)⟩, ⟨below_alloc (below_step (below_alloc (Below.refl _ _) _).drew.drew HB.out) _⟩⟩
                | exact ⟨_, A5, c5, rfl, k5, by omega, ⟨blk_put (blk_put HG7.out 0 _ rfl) 1 _ rfl⟩, ⟨blk_far (blk_far HGB.out (by simp) _) (by simp) _⟩, ⟨own_put2 (g := w.heap.size + 1) HO.out (by simp) (by first | (simp; done) | (simp; omega))⟩, ⟨below_set (below_set (below_step (below_alloc (below_alloc (Below.refl _ _) _).drew.drew _) HB.out) (by omega)) (by omega)⟩⟩
          case rest =>
            obtain ⟨g7, A5, c5, rfl, k5, hg7, H7, HG, HO, HB⟩ := hcut
            have y0 : wc.cell? ⟨g7, 0, none⟩ = some (.int .i64 x1) := blk_cell H7.out 0
            have y1 : wc.cell? ⟨g7, 1, none⟩ = some (.slice A5 l.length c5) := blk_cell H7.out 1
            have C5 : (Kd.int .u8).C wc A5 l.length l := by
              obtain ⟨A, c, e, _, h⟩ := HO.out.slice
              cases e
              exact h
            have HC5 := Aside0.mk C5
            clear C5
            have L2 : l.length ≤ 65535 := by rw [HLL.out]; exact n1
            by_cases hok : okR (x1, l)
            · have hd : decide (okR (x1, l)) = true := decide_eq_true hok
              have HOK := Aside0.mk hok
              clear hok
              have hm3 := run_mid (some ad) b.length c (4 + (n : Int)) (4 + (n : Int) + 5 - 1) (by omega) (by omega) (by omega) hc
              obtain ⟨lm, hlm⟩ : ∃ lm, lm = (b.take (n + 8)).drop (4 + n) := ⟨_, rfl⟩
              have lml : lm.length = 4 := by rw [hlm, List.length_drop, List.length_take]; omega
              have hlm2 : lm = (b.drop (4 + n)).take 4 := by rw [hlm, List.drop_take]; congr 1; omega
              have C3 := Kd.C_mid (lo := 4 + n) (hi := n + 8) H.out (by omega) (by omega) hc
              rw [← hlm] at C3
              obtain ⟨A3, hA3⟩ : ∃ A3, A3 = (if c = 4 + n then some ad else (some ad).map (·.add ((4 + n) * 1))) := ⟨_, rfl⟩
              obtain ⟨c3, hc3⟩ : ∃ c3, c3 = c - (4 + n) := ⟨_, rfl⟩
              have hm4 : ∀ W : World, (Instr.slice 29 (.slice (some ad) b.length c) (some (.int .i64 (4 + (n : Int)))) (some (.int .i64 (4 + (n : Int) + 5 - 1))) none).run Tryz.prog W = .ok (.slice A3 lm.length c3) W := by
                intro W
                rw [hm3 W, hA3, hc3, lml, show (4 + (n : Int)).toNat = 4 + n by omega]
                congr 2
                omega
              have k3 : lm.length ≤ c3 := by omega
              have HC3 := Aside0.mk (show (Kd.int .u8).C w A3 lm.length lm by rw [hA3]; exact C3)
              have HLM := Aside0.mk hlm2
              clear hm3 hA3 C3 hlm hlm2 hc3 lml
              have u4 : IntKind.i64.wrap (4 + (n : Int)) = 4 + (n : Int) := IntWalk.i64_in _ ⟨by omega, by omega⟩
              have u5 : IntKind.i64.wrap (4 + (n : Int) + 5 - 1) = 4 + (n : Int) + 5 - 1 := IntWalk.i64_in _ ⟨by omega, by omega⟩
              obtain ⟨f4, hf4⟩ : ∃ f4, f4 = fourB (sumR (x1, l)) := ⟨_, rfl⟩
              have HF4 := Aside0.mk hf4
              clear hf4
              clear r0 r1 s0 s1 r2 s2 r3 s3
              by_cases he : f4 = lm
              · have hde : decide (f4 = lm) = true := decide_eq_true he
                have HX := Aside0.mk (show nextR b = ((x1, l), n + 9, 0) by unfold nextR; rw [if_neg (not_not_intro HWH.out), HHR.out, if_neg (not_not_intro HOK.out), ← HN.out, if_neg (not_not_intro (HF4.out.symm.trans (he.trans HLM.out)))])
                clear he
                go_wp2_with (go_at_call 56; go_must (refine (Right_calls (x1, l) A5 c5 _ (by exact HC5.out) k5).mono ?_; rw [hd]; rintro e w3 ⟨rfl, hbb⟩; have HB3 := Aside0.mk (below_step HB.out hbb); have z0 : w3.cell? ⟨g7, 0, none⟩ = some (.int .i64 x1) := pw_cell_below hbb y0; have z1 : w3.cell? ⟨g7, 1, none⟩ = some (.slice A5 l.length c5) := pw_cell_below hbb y1; have HH3 := Aside0.mk hbb; clear hbb))
                go_region_held3 (fun w' => w'.cell? ⟨g7, 0, none⟩ = some (.int .i64 x1) ∧ w'.cell? ⟨g7, 1, none⟩ = some (.slice A5 l.length c5))
                  (first
                    | exact ⟨z0, z1⟩
                    | exact ⟨v0, v1⟩
                    | exact ⟨s0, s1⟩
                    | exact ⟨r0, r1⟩)
                  (first
                    | (go_at_call 59; go_must (refine (sum_calls (x1, l) A5 c5 _ (by exact Kd.C_below HC5.out HH3.out.drew) k5).mono ?_; rintro e w4 ⟨rfl, hbb⟩; have HB4 := Aside0.mk (below_step HB3.out.drew hbb); have s0 : w4.cell? ⟨g7, 0, none⟩ = some (.int .i64 x1) := pw_cell_below hbb z0; have s1 : w4.cell? ⟨g7, 1, none⟩ = some (.slice A5 l.length c5) := pw_cell_below hbb z1; have HH4 := Aside0.mk (below_step HH3.out.drew hbb); clear hbb))
                    | (go_at_call 58; go_must (refine (four_calls _ _).mono ?_; rintro e w5 ⟨vv, rfl, O4, hbb⟩; rw [← HF4.out] at O4; have hs4 := OwnB.slice O4; obtain ⟨A4, c4, hvv, k4, C4⟩ := hs4; subst hvv; have HC4 := Aside0.mk C4; have HB5 := Aside0.mk (below_step HB4.out hbb); have v0 : w5.cell? ⟨g7, 0, none⟩ = some (.int .i64 x1) := pw_cell_below hbb s0; have v1 : w5.cell? ⟨g7, 1, none⟩ = some (.slice A5 l.length c5) := pw_cell_below hbb s1; have HH5 := Aside0.mk (below_step HH4.out hbb); clear hbb C4 O4))
                    | (go_at_call 64; go_must (refine (Equal_calls A4 A3 c4 c3 f4 lm _ (by exact HC4.out) (by exact Kd.C_below HC3.out HB5.out) k4 k3 (by rw [HF4.out]; simp [fourB])).mono ?_; rw [hde]; rintro e w6 ⟨rfl, hdr⟩; have HB6 := Aside0.mk (below_step HB5.out hdr.below); have r0 : w6.cell? ⟨g7, 0, none⟩ = some (.int .i64 x1) := pw_cell_below hdr.below v0; have r1 : w6.cell? ⟨g7, 1, none⟩ = some (.slice A5 l.length c5) := pw_cell_below hdr.below v1; have HH6 := Aside0.mk (below_step HH5.out hdr.below); have hgb : w6.heap[w.heap.size]? = some (.cells #[.int .i64 0, .slice none 0 0] 56 (0, 0)) := blk_below HG.out HH6.out; have t0 : w6.cell? ⟨w.heap.size, 0, none⟩ = some (.int .i64 0) := blk_cell hgb 0; have t1 : w6.cell? ⟨w.heap.size, 1, none⟩ = some (.slice none 0 0) := blk_cell hgb 1; have f0 := blk_frozen hgb 0; have f1 := blk_frozen hgb 1; have HGB := Aside0.mk hgb; clear hdr hgb)))
                all_goals
                  go_wp2_with fail
                  refine bodyPost_ret (results_ctt rfl _ _ w.heap.size 56 #[.int .i64 x1, .slice A5 l.length c5] (0, 0) _ rfl (blk_put (blk_put HGB.out 0 _ rfl) 1 _ rfl) Tryz.underlying56 rfl (by kernel_rfl)) rfl ?_
                  exact ⟨.slice A5 l.length c5, by rw [HX.out]; show _ = Ending.returned (.tuple #[.agg #[.int .i64 x1, .slice A5 l.length c5], .int .i64 ((n + 9 : Nat) : Int), .int .i64 0]); rw [show ((n + 9 : Nat) : Int) = 4 + (n : Int) + 5 by omega]; rfl, by rw [HX.out]; exact own_put2 (HO.out.below HH6.out) (by omega) (by omega), below_set (below_set HB6.out (Nat.le_refl _)) (Nat.le_refl _)⟩
              · have hde : decide (f4 = lm) = false := decide_eq_false he
                have HX := Aside0.mk (show nextR b = ((0, []), 0, 9) by unfold nextR; rw [if_neg (not_not_intro HWH.out), HHR.out, if_neg (not_not_intro HOK.out), ← HN.out, if_pos (fun h => he (HF4.out.trans (h.trans HLM.out.symm)))])
                clear he
                go_wp2_with (go_at_call 56; go_must (refine (Right_calls (x1, l) A5 c5 _ (by exact HC5.out) k5).mono ?_; rw [hd]; rintro e w3 ⟨rfl, hbb⟩; have HB3 := Aside0.mk (below_step HB.out hbb); have z0 : w3.cell? ⟨g7, 0, none⟩ = some (.int .i64 x1) := pw_cell_below hbb y0; have z1 : w3.cell? ⟨g7, 1, none⟩ = some (.slice A5 l.length c5) := pw_cell_below hbb y1; have HH3 := Aside0.mk hbb; clear hbb))
                go_region_held3 (fun w' => w'.cell? ⟨g7, 0, none⟩ = some (.int .i64 x1) ∧ w'.cell? ⟨g7, 1, none⟩ = some (.slice A5 l.length c5))
                  (first
                    | exact ⟨z0, z1⟩
                    | exact ⟨v0, v1⟩
                    | exact ⟨s0, s1⟩
                    | exact ⟨r0, r1⟩)
                  (first
                    | (go_at_call 59; go_must (refine (sum_calls (x1, l) A5 c5 _ (by exact Kd.C_below HC5.out HH3.out.drew) k5).mono ?_; rintro e w4 ⟨rfl, hbb⟩; have HB4 := Aside0.mk (below_step HB3.out.drew hbb); have s0 : w4.cell? ⟨g7, 0, none⟩ = some (.int .i64 x1) := pw_cell_below hbb z0; have s1 : w4.cell? ⟨g7, 1, none⟩ = some (.slice A5 l.length c5) := pw_cell_below hbb z1; have HH4 := Aside0.mk (below_step HH3.out.drew hbb); clear hbb))
                    | (go_at_call 58; go_must (refine (four_calls _ _).mono ?_; rintro e w5 ⟨vv, rfl, O4, hbb⟩; rw [← HF4.out] at O4; have hs4 := OwnB.slice O4; obtain ⟨A4, c4, hvv, k4, C4⟩ := hs4; subst hvv; have HC4 := Aside0.mk C4; have HB5 := Aside0.mk (below_step HB4.out hbb); have v0 : w5.cell? ⟨g7, 0, none⟩ = some (.int .i64 x1) := pw_cell_below hbb s0; have v1 : w5.cell? ⟨g7, 1, none⟩ = some (.slice A5 l.length c5) := pw_cell_below hbb s1; have HH5 := Aside0.mk (below_step HH4.out hbb); clear hbb C4 O4))
                    | (go_at_call 64; go_must (refine (Equal_calls A4 A3 c4 c3 f4 lm _ (by exact HC4.out) (by exact Kd.C_below HC3.out HB5.out) k4 k3 (by rw [HF4.out]; simp [fourB])).mono ?_; rw [hde]; rintro e w6 ⟨rfl, hdr⟩; have HB6 := Aside0.mk (below_step HB5.out hdr.below); have r0 : w6.cell? ⟨g7, 0, none⟩ = some (.int .i64 x1) := pw_cell_below hdr.below v0; have r1 : w6.cell? ⟨g7, 1, none⟩ = some (.slice A5 l.length c5) := pw_cell_below hdr.below v1; have HH6 := Aside0.mk (below_step HH5.out hdr.below); have hgb : w6.heap[w.heap.size]? = some (.cells #[.int .i64 0, .slice none 0 0] 56 (0, 0)) := blk_below HG.out HH6.out; have t0 : w6.cell? ⟨w.heap.size, 0, none⟩ = some (.int .i64 0) := blk_cell hgb 0; have t1 : w6.cell? ⟨w.heap.size, 1, none⟩ = some (.slice none 0 0) := blk_cell hgb 1; have f0 := blk_frozen hgb 0; have f1 := blk_frozen hgb 1; have HGB := Aside0.mk hgb; clear hdr hgb)))
                all_goals
                  go_wp2_with fail
                  refine bodyPost_ret (results_ctt rfl _ _ w.heap.size 56 #[.int .i64 0, .slice none 0 0] (0, 0) _ rfl (blk_put (blk_put HGB.out 0 _ rfl) 1 _ rfl) Tryz.underlying56 rfl (by kernel_rfl)) rfl ?_
                  exact ⟨.slice none 0 0, by rw [HX.out]; rfl, by rw [HX.out]; exact own_nil _ _ _ _, below_set (below_set HB6.out (Nat.le_refl _)) (Nat.le_refl _)⟩
            · have hd : decide (okR (x1, l)) = false := decide_eq_false hok
              have HX := Aside0.mk (show nextR b = ((0, []), 0, 3) by unfold nextR; rw [if_neg (not_not_intro HWH.out), HHR.out, if_pos hok])
              clear hok
              go_wp2_with (go_at_call 56; go_must (refine (Right_calls (x1, l) A5 c5 _ (by exact HC5.out) k5).mono ?_; rw [hd]; rintro e w3 ⟨rfl, hbb⟩; have HB3 := Aside0.mk (below_step HB.out hbb); have hgb : w3.heap[w.heap.size]? = some (.cells #[.int .i64 0, .slice none 0 0] 56 (0, 0)) := blk_below HG.out hbb; have z0 : w3.cell? ⟨w.heap.size, 0, none⟩ = some (.int .i64 0) := blk_cell hgb 0; have z1 : w3.cell? ⟨w.heap.size, 1, none⟩ = some (.slice none 0 0) := blk_cell hgb 1; have f0 := blk_frozen hgb 0; have f1 := blk_frozen hgb 1; have HGB := Aside0.mk hgb; clear hbb hgb))
              refine bodyPost_ret (results_ctt rfl _ _ w.heap.size 56 #[.int .i64 0, .slice none 0 0] (0, 0) _ rfl (blk_put (blk_put HGB.out 0 _ rfl) 1 _ rfl) Tryz.underlying56 rfl (by kernel_rfl)) rfl ?_
              exact ⟨.slice none 0 0, by rw [HX.out]; rfl, by rw [HX.out]; exact own_nil _ _ _ _, below_set (below_set HB3.out (Nat.le_refl _)) (Nat.le_refl _)⟩
        · have HX := Aside0.mk (show nextR b = ((0, []), 0, 0) from if_pos (fun h => h8 (by rw [X8.out, HN.out]; exact h.2.2.2)))
          have q8 : (x8 != 165) = true := by simp [h8]
          have q9 : (x8 == 165) = false := by simp [h8]
          go_enter Tryz.func38, Tryz.ntmps38
          go_wp2_with fail
          go_region
          go_wp2_with fail
          refine bodyPost_ret (results_ctt rfl _ _ w.heap.size 56 #[.int .i64 0, .slice none 0 0] (0, 0) _ rfl (blk_drew (heap_at rfl)) Tryz.underlying56 rfl (by kernel_rfl)) rfl ?_
          exact ⟨.slice none 0 0, by rw [HX.out]; rfl, by rw [HX.out]; exact own_nil _ _ _ _, (below_alloc (Below.refl _ _) _).drew⟩
      · have HX := Aside0.mk (show nextR b = ((0, []), 0, 0) from if_pos (fun h => hl (by have := h.2.2.1; rw [HN.out]; exact this)))
        have p1 : decide ((b.length : Int) < ((n + 9 : Nat) : Int)) = true := decide_eq_true (by omega)
        go_enter Tryz.func38, Tryz.ntmps38
        go_wp2_with fail
        go_region
        go_wp2_with fail
        refine bodyPost_ret (results_ctt rfl _ _ w.heap.size 56 #[.int .i64 0, .slice none 0 0] (0, 0) _ rfl (blk_drew (heap_at rfl)) Tryz.underlying56 rfl (by kernel_rfl)) rfl ?_
        exact ⟨.slice none 0 0, by rw [HX.out]; rfl, by rw [HX.out]; exact own_nil _ _ _ _, (below_alloc (Below.refl _ _) _).drew⟩
    · have HX := Aside0.mk (show nextR b = ((0, []), 0, 0) from if_pos (fun h => h0 (X0.out.trans h.2.1)))
      go_enter Tryz.func38, Tryz.ntmps38
      go_wp2_with fail
      refine bodyPost_ret (results_ctt rfl _ _ w.heap.size 56 #[.int .i64 0, .slice none 0 0] (0, 0) _ rfl (heap_at rfl) Tryz.underlying56 rfl (by kernel_rfl)) rfl ?_
      exact ⟨.slice none 0 0, by rw [HX.out]; rfl, by rw [HX.out]; exact own_nil _ _ _ _, below_alloc (Below.refl _ _) _⟩
  · have HX := Aside0.mk (show nextR b = ((0, []), 0, 0) from if_pos (fun h => h9 h.1))
    clear h
    have q1 : decide ((b.length : Int) < 9) = true := decide_eq_true (by omega)
    have q2 : b.length < 9 := by omega
    go_enter Tryz.func38, Tryz.ntmps38
    go_wp2_with fail
    refine bodyPost_ret (results_ctt rfl _ _ w.heap.size 56 #[.int .i64 0, .slice none 0 0] (0, 0) _ rfl (heap_at rfl) Tryz.underlying56 rfl (by kernel_rfl)) rfl ?_
    exact ⟨.slice none 0 0, by rw [HX.out]; rfl, by rw [HX.out]; exact own_nil _ _ _ _, below_alloc (Below.refl _ _) _⟩
end Go.Proofs.YtmapdfommjcebaaGreat.Own
namespace Go.Proofs.YtmapdfommjcebaaGreat.Own
open Go.RowKit Go.Proofs.YtmapdfommjcebaaGreatW.PrintWords Go.Proofs.YtmapdfommjcebaaGreatW.PrintLast Go.Proofs.YtmapdfommjcebaaGreatW.PrintMore
set_option linter.unusedSimpArgs false
theorem info49 : (Tryz.prog.info? 56).map (fun i => (i.zero, i.size, i.bytes)) = some (some (.agg #[.int .i64 0, .slice none 0 0]), 2, 32) := by kernel_rfl
section
variable {ops : Array Oper} {rest : List Oper} {o : Oper} {a : Act} {Q : Exit → Act → World → Prop}
theorem app_rec {w0 W : World} (base : Nat) (hgd : o.guard = none) (s x : Operand) (ho : o.op = .call { callee := .builtin .append, args := #[s, x], argTypes := #[52, 52] })
    (v : Value) (L : List Rec) (r : Rec) (v1 : Value) (ok : Nat → Prop) (base1 : Nat) (hs : a.eval s = v) (hx : a.eval x = .slice (some ⟨W.heap.size, 0, none⟩) 1 1)
    (hO : OwnB W base1 v1 r.2) (hokp : ∀ k, v1.ownBlock = some k → ok k ∧ some k ≠ v.ownBlock) (hfresh : ∀ k, W.heap.size ≤ k → ok k)
    (HO : Kd.N WK 56 W base ok v L) (HB : Below base w0 W) (hbase : base ≤ W.heap.size) (hl : L.length + 1 ≤ 4000000000)
    (h : ∀ v2 w1, Kd.N WK 56 w1 base ok v2 (L ++ [r]) → Below base w0 w1 → W.grownBy w1 v.ownBlock → (v2.ownBlock = v.ownBlock ∨ ∃ b, v2.ownBlock = some b ∧ W.heap.size ≤ b) → wpList Tryz.prog ops Q rest (a.put o.dst v2) w1) :
    wpList Tryz.prog ops Q (o :: rest) a (W.alloc (.cells #[.int .i64 r.1, v1] 56)) :=
  Kd.N_append WK base hgd s x 52 56 (.agg #[.int .i64 0, .slice none 0 0]) 32 ho Tryz.underlying52 info49 rfl (by decide) (by omega) v L r [.int .i64 r.1, v1] ok (fun k => v1.ownBlock = some k) hs hx (FK_write hO) hokp hfresh HO HB hbase (by omega) h
end
theorem jump_ret {l : Nat} {J : Act → World → Prop} {Q : Exit → Act → World → Prop} {a : Act} {w : World} : Exit.jump l J Q .ret a w = Q .ret a w := rfl
/-- What holds at each jump back. -/
structure RdAt (w W : World) (b : List Int) (v : Value) (L : List Rec) (p : Nat) : Prop where
  row : Kd.N WK 56 W w.heap.size (fun k => w.heap.size ≤ k) v L
  bel : Below w.heap.size w W
  says : readR b = (L ++ (readR (b.drop p)).1, p + (readR (b.drop p)).2.1, (readR (b.drop p)).2.2)
  few : L.length ≤ p
theorem RdAt.start (w : World) (b : List Int) : RdAt w w b (.slice none 0 0) [] 0 := ⟨Kd.N_nil _ _ _ _ _, Below.refl _ _, by simp, Nat.le_refl _⟩
set_option maxHeartbeats 1000000 in
set_option maxRecDepth 100000 in
theorem Read_calls (A : Option Addr) (c : Nat) (b : List Int) (w : World) (h : (Kd.int .u8).C w A b.length b) (hc : b.length ≤ c) (hb : ∀ x ∈ b, 0 ≤ x ∧ x < 256) (hl : b.length ≤ 300000) :
    Calls Tryz.prog 12 #[.slice A b.length c] w fun e w' => ∃ v, e = .returned (.tuple #[v, .int .i64 (readR b).2.1, .int .i64 (readR b).2.2]) ∧ Kd.N WK 56 w' w.heap.size (fun k => w.heap.size ≤ k) v (readR b).1 ∧ Below w.heap.size w w' := by
  have hu49 := Tryz.underlying56
  have H := Aside0.mk h
  clear h
  go_enter Tryz.func12, Tryz.ntmps12
  go_wp2_with fail
  refine wp_scope_jumps 0 (fun a' W => ∃ (L : List Rec) (at_ : Nat) (v5 u1 u7 u8 u9 u10 u11 u12 u13 u14 u15 u16 u17 u18 u19 u20 u21 u22 u23 u24 u25 u26 u27 u28 u29 u30 u31 u32 u33 : Value), a' = { tmps := #[.slice A b.length c, u1, .slice none 0 0, .int .i64 0, .int .i64 0, v5, .int .i64 at_, u7, u8, u9, u10, u11, u12, u13, u14, u15, u16, u17, u18, u19, u20, u21, u22, u23, u24, u25, u26, u27, u28, u29, u30, u31, u32, u33], defers := [] } ∧ at_ ≤ b.length ∧ Aside0 (RdAt w W b v5 L at_)) (fun a' _ => b.length - (intOf (a'.tmps.getD 6 undef)).toNat) rfl ?_ ?_
  · have HR := Aside0.mk (RdAt.start w b)
    go_wp2_with fail
    go_step3
    have hc0 : 0 ≤ b.length := Nat.zero_le _
    have ht := run_drop A b.length c (0 : Int) (by omega) (by omega)
    obtain ⟨a2, ha2⟩ : ∃ a2, a2 = (if c = (0 : Int).toNat then A else A.map (·.add ((0 : Int).toNat * 1))) := ⟨_, rfl⟩
    obtain ⟨b2, hb2⟩ : ∃ b2, b2 = b.drop 0 := ⟨_, rfl⟩
    obtain ⟨c2, hc2⟩ : ∃ c2, c2 = c - 0 := ⟨_, rfl⟩
    have hbl : b2.length = b.length - 0 := by rw [hb2, List.length_drop]
    have hN : (0 : Int).toNat = 0 := by omega
    rw [← ha2, hN, ← hbl, ← hc2] at ht
    have k2 : b2.length ≤ c2 := by omega
    have C2 : (Kd.int .u8).C w a2 b2.length b2 := by
      have := Kd.C_drop (m := 0) H.out hc0 hc
      rw [← hb2] at this
      rw [ha2, hN]
      exact this
    have HC2 := Aside0.mk C2
    have HBB := Aside0.mk (show ∀ x ∈ b2, 0 ≤ x ∧ x < 256 from fun x hx => hb x (List.mem_of_mem_drop (by rw [← hb2]; exact hx)))
    have HB2 := Aside0.mk hb2
    have HBL := Aside0.mk hbl
    have HWB := Aside0.mk HR.out.bel
    clear ha2 hb2 hc2 C2 hbl hN
    by_cases hn : 0 < (nextR b2).2.1
    · obtain ⟨e0, _⟩ := next_pos hn
      have hle := next_le hn
      have HE := Aside0.mk (readR_step hn)
      obtain ⟨x, hx⟩ : ∃ x, x = (nextR b2).1 := ⟨_, rfl⟩
      obtain ⟨m, hm⟩ : ∃ m, m = (nextR b2).2.1 := ⟨_, rfl⟩
      have E0 := Aside0.mk (show nextR b2 = (x, m, 0) by rw [hx, hm, e0])
      rw [← hm] at hn hle
      rw [← hx, ← hm] at HE
      clear hx hm e0
      have q1 : decide (0 < (m : Int)) = true := decide_eq_true (by omega)
      have q2 : 0 < m := hn
      have w1 : IntKind.i64.wrap ((0 : Int) + (m : Int)) = (0 : Int) + (m : Int) := IntWalk.i64_in _ ⟨by omega, by have := HBL.out; omega⟩
      have w2 : IntKind.i64.wrap (m : Int) = (m : Int) := IntWalk.i64_in _ ⟨by omega, by have := HBL.out; omega⟩
      go_wp2_with (first
        | (go_at_call 38; go_must (refine (next_calls a2 c2 b2 _ (by exact Kd.C_below HC2.out HWB.out) k2 HBB.out).mono ?_; rw [E0.out]; rintro e w3 ⟨v, rfl, ho, hbb⟩; have hs := OwnB.slice ho; obtain ⟨A5, c5, hv, k5, _⟩ := hs; subst hv; have HO := Aside0.mk ho; have HB3 := Aside0.mk hbb; clear ho hbb))
        | (at_builtin; go_must (refine app_rec w.heap.size rfl (.tmp 24) (.tmp 26) rfl (.slice none 0 0) [] x (.slice A5 x.2.length c5) (fun k => w.heap.size ≤ k) w.heap.size rfl (congrArg (fun g => Value.slice (some ⟨g, 0, none⟩) 1 1) (show w3.heap.size + 1 = (w3.alloc _).heap.size by simp)) (HO.out.below (below_alloc (Below.refl _ _) _)) (fun k hk => ⟨by have h1 := own_base HO.out k hk; have h2 := HWB.out.size; omega, fun e => by have h1 := own_base HO.out k hk; have h2 := Kd.N_lt HR.out.row k e.symm; omega⟩) (fun k hk => by have h1 := HWB.out.size; have h2 := HB3.out.size; simp at hk; omega) (Kd.N_below HR.out.row (below_alloc HB3.out _)) (below_alloc (below_step HWB.out HB3.out) _) (below_alloc (below_step HWB.out HB3.out) _).size (by have := HR.out.few; omega) ?_); intro v6 w4 O1 B1 _ _; have HN4 := Aside0.mk O1; have HB4 := Aside0.mk B1; clear O1 B1 HO HB3))
      have HR2 := Aside0.mk (show RdAt w w4 b v6 ([] ++ [x]) (0 + m) from ⟨HN4.out, HB4.out, by
        rw [HR.out.says, ← HB2.out, HE.out, HB2.out, List.drop_drop]
        simp [Nat.add_assoc], by have := HR.out.few; rw [List.length_append, List.length_singleton]; omega⟩)
      go_step3
      refine And.intro rfl ?_
      exact ⟨[x], m, v6, undef, _, _, _, _, _, _, _, _, _, _, _, _, _, _, _, _, _, _, _, _, _, _, _, _, _, _, _, rfl, by have := HBL.out; omega, ⟨by have := HR2.out; simpa using this⟩⟩
    · have hz : (nextR b2).2.1 = 0 := by omega
      have HE := Aside0.mk (readR_stop hz)
      obtain ⟨x, hx⟩ : ∃ x, x = (nextR b2).1 := ⟨_, rfl⟩
      obtain ⟨e, he⟩ : ∃ e, e = (nextR b2).2.2 := ⟨_, rfl⟩
      have E0 := Aside0.mk (show nextR b2 = (x, 0, e) by rw [hx, he, ← hz])
      rw [← he] at HE
      have HS := Aside0.mk (show readR b = ([], 0 , e) by rw [HR.out.says, ← HB2.out, HE.out]; simp)
      clear hx he hn hz
      have q1 : decide ((0 : Int) < 0) = false := by decide
      by_cases q0 : e = 0
      · subst q0
        go_wp2_with (first
          | (go_at_call 38; go_must (refine (next_calls a2 c2 b2 _ (by exact Kd.C_below HC2.out HWB.out) k2 HBB.out).mono ?_; rw [E0.out]; rintro e w3 ⟨v, rfl, ho, hbb⟩; have hs := OwnB.slice ho; obtain ⟨A5, c5, hv, k5, _⟩ := hs; subst hv; have HB3 := Aside0.mk (below_step HWB.out hbb); have HN3 := Aside0.mk (Kd.N_below HR.out.row hbb); clear ho hbb)))
        rw [jump_ret]
        go_ret3
        exact ⟨(.slice none 0 0), by rw [HS.out]; first | done | simp, by rw [HS.out]; exact Kd.N_alloc HN3.out _, below_alloc HB3.out _⟩
      · have q3 : decide (e = 0) = false := decide_eq_false q0
        go_wp2_with (first
          | (go_at_call 38; go_must (refine (next_calls a2 c2 b2 _ (by exact Kd.C_below HC2.out HWB.out) k2 HBB.out).mono ?_; rw [E0.out]; rintro e w3 ⟨v, rfl, ho, hbb⟩; have hs := OwnB.slice ho; obtain ⟨A5, c5, hv, k5, _⟩ := hs; subst hv; have HB3 := Aside0.mk (below_step HWB.out hbb); have HN3 := Aside0.mk (Kd.N_below HR.out.row hbb); clear ho hbb)))
        rw [jump_ret]
        go_ret3
        exact ⟨(.slice none 0 0), by rw [HS.out]; first | done | simp, by rw [HS.out]; exact Kd.N_alloc HN3.out _, below_alloc HB3.out _⟩
  · rintro a W ⟨L, at_, v5, u1, u7, u8, u9, u10, u11, u12, u13, u14, u15, u16, u17, u18, u19, u20, u21, u22, u23, u24, u25, u26, u27, u28, u29, u30, u31, u32, u33, rfl, hat, HR⟩
    dsimp only
    have hc0 : at_ ≤ b.length := hat
    have ht := run_drop A b.length c (at_ : Int) (by omega) (by omega)
    obtain ⟨a2, ha2⟩ : ∃ a2, a2 = (if c = (at_ : Int).toNat then A else A.map (·.add ((at_ : Int).toNat * 1))) := ⟨_, rfl⟩
    obtain ⟨b2, hb2⟩ : ∃ b2, b2 = b.drop at_ := ⟨_, rfl⟩
    obtain ⟨c2, hc2⟩ : ∃ c2, c2 = c - at_ := ⟨_, rfl⟩
    have hbl : b2.length = b.length - at_ := by rw [hb2, List.length_drop]
    have hN : (at_ : Int).toNat = at_ := by omega
    rw [← ha2, hN, ← hbl, ← hc2] at ht
    have k2 : b2.length ≤ c2 := by omega
    have C2 : (Kd.int .u8).C w a2 b2.length b2 := by
      have := Kd.C_drop (m := at_) H.out hc0 hc
      rw [← hb2] at this
      rw [ha2, hN]
      exact this
    have HC2 := Aside0.mk C2
    have HBB := Aside0.mk (show ∀ x ∈ b2, 0 ≤ x ∧ x < 256 from fun x hx => hb x (List.mem_of_mem_drop (by rw [← hb2]; exact hx)))
    have HB2 := Aside0.mk hb2
    have HBL := Aside0.mk hbl
    have HWB := Aside0.mk HR.out.bel
    clear ha2 hb2 hc2 C2 hbl hN
    by_cases hn : 0 < (nextR b2).2.1
    · obtain ⟨e0, _⟩ := next_pos hn
      have hle := next_le hn
      have HE := Aside0.mk (readR_step hn)
      obtain ⟨x, hx⟩ : ∃ x, x = (nextR b2).1 := ⟨_, rfl⟩
      obtain ⟨m, hm⟩ : ∃ m, m = (nextR b2).2.1 := ⟨_, rfl⟩
      have E0 := Aside0.mk (show nextR b2 = (x, m, 0) by rw [hx, hm, e0])
      rw [← hm] at hn hle
      rw [← hx, ← hm] at HE
      clear hx hm e0
      have q1 : decide (0 < (m : Int)) = true := decide_eq_true (by omega)
      have q2 : 0 < m := hn
      have w1 : IntKind.i64.wrap ((at_ : Int) + (m : Int)) = (at_ : Int) + (m : Int) := IntWalk.i64_in _ ⟨by omega, by have := HBL.out; omega⟩
      have w2 : IntKind.i64.wrap (m : Int) = (m : Int) := IntWalk.i64_in _ ⟨by omega, by have := HBL.out; omega⟩
      go_wp2_with (first
        | (go_at_call 38; go_must (refine (next_calls a2 c2 b2 _ (by exact Kd.C_below HC2.out HWB.out) k2 HBB.out).mono ?_; rw [E0.out]; rintro e w3 ⟨v, rfl, ho, hbb⟩; have hs := OwnB.slice ho; obtain ⟨A5, c5, hv, k5, _⟩ := hs; subst hv; have HO := Aside0.mk ho; have HB3 := Aside0.mk hbb; clear ho hbb))
        | (at_builtin; go_must (refine app_rec w.heap.size rfl (.tmp 24) (.tmp 26) rfl v5 L x (.slice A5 x.2.length c5) (fun k => w.heap.size ≤ k) W.heap.size rfl (congrArg (fun g => Value.slice (some ⟨g, 0, none⟩) 1 1) (show w3.heap.size + 1 = (w3.alloc _).heap.size by simp)) (HO.out.below (below_alloc (Below.refl _ _) _)) (fun k hk => ⟨by have h1 := own_base HO.out k hk; have h2 := HWB.out.size; omega, fun e => by have h1 := own_base HO.out k hk; have h2 := Kd.N_lt HR.out.row k e.symm; omega⟩) (fun k hk => by have h1 := HWB.out.size; have h2 := HB3.out.size; simp at hk; omega) (Kd.N_below HR.out.row (below_alloc HB3.out _)) (below_alloc (below_step HWB.out HB3.out) _) (below_alloc (below_step HWB.out HB3.out) _).size (by have := HR.out.few; omega) ?_); intro v6 w4 O1 B1 _ _; have HN4 := Aside0.mk O1; have HB4 := Aside0.mk B1; clear O1 B1 HO HB3))
      have HR2 := Aside0.mk (show RdAt w w4 b v6 (L ++ [x]) (at_ + m) from ⟨HN4.out, HB4.out, by
        rw [HR.out.says, ← HB2.out, HE.out, HB2.out, List.drop_drop]
        simp [Nat.add_assoc], by have := HR.out.few; rw [List.length_append, List.length_singleton]; omega⟩)
      go_step3
      refine And.intro rfl ?_
      rw [show (at_ : Int) + (m : Int) = ((at_ + m : Nat) : Int) by simp]
      refine ⟨⟨L ++ [x], at_ + m, v6, u1, _, _, _, _, _, _, _, _, _, _, _, _, _, _, _, _, _, _, _, _, _, _, _, _, _, _, _, rfl, by have := HBL.out; omega, HR2⟩, ?_⟩
      have := HBL.out
      simp [intOf]
      omega
    · have hz : (nextR b2).2.1 = 0 := by omega
      have HE := Aside0.mk (readR_stop hz)
      obtain ⟨x, hx⟩ : ∃ x, x = (nextR b2).1 := ⟨_, rfl⟩
      obtain ⟨e, he⟩ : ∃ e, e = (nextR b2).2.2 := ⟨_, rfl⟩
      have E0 := Aside0.mk (show nextR b2 = (x, 0, e) by rw [hx, he, ← hz])
      rw [← he] at HE
      have HS := Aside0.mk (show readR b = (L, at_ , e) by rw [HR.out.says, ← HB2.out, HE.out]; simp)
      clear hx he hn hz
      have q1 : decide ((0 : Int) < 0) = false := by decide
      by_cases q0 : e = 0
      · subst q0
        go_wp2_with (first
          | (go_at_call 38; go_must (refine (next_calls a2 c2 b2 _ (by exact Kd.C_below HC2.out HWB.out) k2 HBB.out).mono ?_; rw [E0.out]; rintro e w3 ⟨v, rfl, ho, hbb⟩; have hs := OwnB.slice ho; obtain ⟨A5, c5, hv, k5, _⟩ := hs; subst hv; have HB3 := Aside0.mk (below_step HWB.out hbb); have HN3 := Aside0.mk (Kd.N_below HR.out.row hbb); clear ho hbb)))
        rw [jump_ret]
        go_ret3
        exact ⟨v5, by rw [HS.out]; first | done | simp, by rw [HS.out]; exact Kd.N_alloc HN3.out _, below_alloc HB3.out _⟩
      · have q3 : decide (e = 0) = false := decide_eq_false q0
        go_wp2_with (first
          | (go_at_call 38; go_must (refine (next_calls a2 c2 b2 _ (by exact Kd.C_below HC2.out HWB.out) k2 HBB.out).mono ?_; rw [E0.out]; rintro e w3 ⟨v, rfl, ho, hbb⟩; have hs := OwnB.slice ho; obtain ⟨A5, c5, hv, k5, _⟩ := hs; subst hv; have HB3 := Aside0.mk (below_step HWB.out hbb); have HN3 := Aside0.mk (Kd.N_below HR.out.row hbb); clear ho hbb)))
        rw [jump_ret]
        go_ret3
        exact ⟨v5, by rw [HS.out]; first | done | simp, by rw [HS.out]; exact Kd.N_alloc HN3.out _, below_alloc HB3.out _⟩
end Go.Proofs.YtmapdfommjcebaaGreat.Own
