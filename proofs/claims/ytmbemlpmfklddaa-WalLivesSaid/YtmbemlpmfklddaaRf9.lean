/- The reference's slot. -/
import Derived.Test.YtmbemlpmfklddaaRfA
import Derived.Deep.RegionWith
import Derived.Deep.DrawnRows
namespace Go.Proofs.Ytmbemlpmfklddaa.Own
open Go.RowKit Go.Proofs.YtmbemlpmfklddaaW.PrintWords Go.Proofs.YtmbemlpmfklddaaW.PrintLast Go.Proofs.YtmbemlpmfklddaaW.PrintMore
attribute [local go_sem ↓] Go.wp_at_zero Go.wp_at_succ
def HasB (W : World) (g : Nat) (o : Obj) : Prop := W.heap[g]? = some o
theorem HasB.new (W : World) (o : Obj) : HasB (W.alloc o) W.heap.size o := heap_at rfl
theorem HasB.new2 (W : World) (o o' : Obj) : HasB ((W.alloc o).alloc o') (W.heap.size + 1) o' := heap_at (by simp)
theorem HasB.old (W : World) (o o' : Obj) : HasB ((W.alloc o).alloc o') W.heap.size o := blk_alloc (heap_at rfl) _
theorem HasB.drew {W : World} {g : Nat} {o : Obj} (h : HasB W g o) : HasB W.drew g o := h
theorem HasB.below {W W1 : World} (hb : Below W.heap.size W W1) : (∀ (g : Nat) (o : Obj), HasB W g o → HasB W1 g o) ∧ ∀ (g : Nat) (o o' : Obj), HasB W g o → HasB (W1.alloc o') g o :=
  ⟨fun _ _ h => blk_below h hb, fun _ _ _ h => blk_alloc (blk_below h hb) _⟩
theorem RefZero6 (s6 : ByteArray) (h : s6 = strOfNums (List.replicate 6 0)) (W : World) : Calls Try.prog 79 #[.int .i64 6] W fun e W' => e = .returned (.string s6) ∧ Below W.heap.size W W' := by
  subst h
  exact RefZero 6 W (by omega)
set_option maxHeartbeats 8000000 in
set_option maxRecDepth 100000 in
theorem RefSlot (gen area : Int) (w : World) (hg : 0 ≤ gen ∧ gen < 4294967296) (ha : 0 ≤ area ∧ area < 256) : Calls Try.prog 95 #[.int .u64 gen, .int .i64 area] w fun e w' => e = .returned (.string (strOfNums (slotB gen area))) ∧ Below w.heap.size w w' := by
  obtain ⟨y0, hy0⟩ : ∃ y, y = gen / 16777216 := ⟨_, rfl⟩
  obtain ⟨y1, hy1⟩ : ∃ y, y = gen / 65536 % 256 := ⟨_, rfl⟩
  obtain ⟨y2, hy2⟩ : ∃ y, y = gen / 256 % 256 := ⟨_, rfl⟩
  obtain ⟨y3, hy3⟩ : ∃ y, y = gen % 256 := ⟨_, rfl⟩
  have w64 : ∀ x : Int, 0 ≤ x → x < 18446744073709551616 → IntKind.u64.wrap x = x := by
    intro x h0 h1
    simp [IntKind.wrap, IntKind.signed, IntKind.bits]
    omega
  have w8 : ∀ x : Int, 0 ≤ x → x < 256 → IntKind.u8.wrap x = x := by
    intro x h0 h1
    simp [IntKind.wrap, IntKind.signed, IntKind.bits]
    omega
  have d0 : IntKind.u8.wrap (IntKind.u64.wrap (gen.tdiv 16777216)) = y0 := by
    rw [Int.tdiv_eq_ediv_of_nonneg hg.1, w64 _ (by omega) (by omega), w8 _ (by omega) (by omega), hy0]
  have d1 : IntKind.u8.wrap ((IntKind.u64.wrap (gen.tdiv 65536)).tmod 256) = y1 := by
    rw [Int.tdiv_eq_ediv_of_nonneg hg.1, w64 _ (by omega) (by omega), Int.tmod_eq_emod_of_nonneg (by omega), w8 _ (by omega) (by omega), hy1]
  have d2 : IntKind.u8.wrap ((IntKind.u64.wrap (gen.tdiv 256)).tmod 256) = y2 := by
    rw [Int.tdiv_eq_ediv_of_nonneg hg.1, w64 _ (by omega) (by omega), Int.tmod_eq_emod_of_nonneg (by omega), w8 _ (by omega) (by omega), hy2]
  have d3 : IntKind.u8.wrap (gen.tmod 256) = y3 := by
    rw [Int.tmod_eq_emod_of_nonneg hg.1, w8 _ (by omega) (by omega), hy3]
  have d4 : IntKind.u8.wrap area = area := w8 _ ha.1 ha.2
  have hsl : slotB gen area = ([90] ++ [y0, y1, y2, y3, area]) ++ List.replicate 6 0 ++ [y0, y1, y2, y3] := by
    unfold slotB fourB
    rw [hy0, hy1, hy2, hy3, show gen / 16777216 % 256 = gen / 16777216 by omega, show area % 256 = area by omega]
    rfl
  clear hy0 hy1 hy2 hy3 w64 w8
  obtain ⟨s5, hs5⟩ : ∃ s5, s5 = strOfNums [y0, y1, y2, y3, area] := ⟨_, rfl⟩
  obtain ⟨s4, hs4⟩ : ∃ s4, s4 = strOfNums [y0, y1, y2, y3] := ⟨_, rfl⟩
  obtain ⟨s6, hs6⟩ : ∃ s6, s6 = strOfNums (List.replicate 6 0) := ⟨_, rfl⟩
  have h5 : ∀ (W : World) (g : Nat), HasB W g (.cells #[.int .u8 y0, .int .u8 y1, .int .u8 y2, .int .u8 y3, .int .u8 area] 5) → Sem.run Try.prog (convert 22 9 (.slice (some ⟨g, 0, none⟩) 5 5)) W = .ok (.string s5) W := by
    intro W g hb
    rw [hs5]
    exact Kd.C_string Try.underlying22 Try.underlying5 Try.underlying9 (C_lit [y0, y1, y2, y3, area] hb rfl (by simp))
  have h4 : ∀ (W : World) (g : Nat), HasB W g (.cells #[.int .u8 y0, .int .u8 y1, .int .u8 y2, .int .u8 y3] 5) → Sem.run Try.prog (convert 22 9 (.slice (some ⟨g, 0, none⟩) 4 4)) W = .ok (.string s4) W := by
    intro W g hb
    rw [hs4]
    exact Kd.C_string Try.underlying22 Try.underlying5 Try.underlying9 (C_lit [y0, y1, y2, y3] hb rfl (by simp))
  have z5 : s5.size = 5 := by rw [hs5, strOfNums_size]; rfl
  have z4 : s4.size = 4 := by rw [hs4, strOfNums_size]; rfl
  have z6 : s6.size = 6 := by rw [hs6, strOfNums_size]; rfl
  have H5 := Aside0.mk hs5
  have H4 := Aside0.mk hs4
  have H6 := Aside0.mk hs6
  have HSL := Aside0.mk hsl
  clear hs5 hs4 hs6 hsl hg ha
  have k1 : ∀ (W : World) (o : Obj), HasB (W.alloc o).drew W.heap.size o := fun W o => HasB.new W o
  have k2 : ∀ (W : World) (o o' : Obj), HasB ((W.alloc o).alloc o').drew (W.heap.size + 1) o' := fun W o o' => HasB.new2 W o o'
  have k3 : ∀ (W : World) (o o' : Obj), HasB ((W.alloc o).alloc o').drew W.heap.size o := fun W o o' => HasB.old W o o'
  have k4 := HasB.new
  have k5 := HasB.new2
  have k6 := HasB.old
  go_enter Try.func95, Try.ntmps95
  go_wp2_with fail
  go_region_with (go_at_call 79; go_must (refine (RefZero6 s6 H6.out _).mono ?_; rintro e w1 ⟨rfl, hb⟩; have HB := Aside0.mk hb; obtain ⟨m1, m2⟩ := HasB.below hb; clear hb))
  all_goals
    go_wp2_with fail
    go_ret
    refine ⟨?_, ?_⟩
    · rw [HSL.out, strs_append, strs_append, strs_append, ← H5.out, ← H4.out, ← H6.out]
      rfl
    · (repeat (with_reducible refine below_alloc ?_ _))
      refine below_step ?_ HB.out
      first
        | exact (Below.refl _ _).drew
        | exact (below_alloc (Below.refl _ _) _).drew
        | exact (below_alloc (below_alloc (Below.refl _ _) _) _).drew
end Go.Proofs.Ytmbemlpmfklddaa.Own
