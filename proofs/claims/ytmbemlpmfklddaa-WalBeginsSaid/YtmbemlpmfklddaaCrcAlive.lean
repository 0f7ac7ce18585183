/- The fixed calls of layer 1's laws come to true. -/
import Derived.Test.YtmbemlpmfklddaaBase
import Derived.Lib.SlBytesConst
import Derived.Deep.RegionWith
import Derived.Deep.DeepMust
namespace Go.Proofs.Ytmbemlpmfklddaa.Own
open Go.RowKit Go.Proofs.YtmbemlpmfklddaaW.PrintWords Go.Proofs.YtmbemlpmfklddaaW.PrintLast Go.Proofs.YtmbemlpmfklddaaW.PrintMore
theorem crc_fixed : crcOf [49, 50, 51, 52, 53, 54, 55, 56, 57] = 4236843288 := by decide +kernel
theorem crc_none : crcOf [] = 0 := by decide +kernel
theorem C_lit {w : World} {g : Nat} {t : TypeId} {fr : Nat × Nat} {cs : Array Value} (xs : List Int) (hb : w.heap[g]? = some (.cells cs t fr)) (hc : cs = (nums .u8 xs).toArray) (hn : xs.length ≤ 9223372036854775807) :
    (Kd.int .u8).C w (some ⟨g, 0, none⟩) xs.length xs := by
  subst hc
  refine C_blk rfl hb hn fun j x hj => ⟨.int .u8 x, ?_, rfl⟩
  simp [nums, hj]
theorem C_two {α : Type} {d : Kd α} {w : World} {x y : α} {u v : Value} {t : TypeId} (h1 : d.sz = 1) (hK : d.K w x [u]) (hL : d.K w y [v]) : d.C (w.alloc (.cells #[u, v] t)) (some ⟨w.heap.size, 0, none⟩) [x, y].length [x, y] := by
  refine C_blk h1 (heap_alloc_new w _) (by simp) fun j z hj => ?_
  have hj0 : j = 0 ∨ j = 1 := by
    have := (List.getElem?_eq_some_iff.1 hj).1
    simp at this
    omega
  rcases hj0 with rfl | rfl
  · have : x = z := by simpa using hj
    subst this
    exact ⟨u, rfl, d.K_below (below_alloc (Below.refl _ _) _) hK⟩
  · have : y = z := by simpa using hj
    subst this
    exact ⟨v, rfl, d.K_below (below_alloc (Below.refl _ _) _) hL⟩
theorem C_cut {w : World} {g off : Nat} {xs : List Int} (m : Nat) (h : (Kd.int .u8).C w (some ⟨g, off, none⟩) xs.length xs) (hm : m < xs.length) : (Kd.int .u8).C w (some ⟨g, off + m, none⟩) (xs.drop m).length (xs.drop m) := by
  have h1 := Kd.C_drop (m := m) (c := xs.length) h (by omega) (by omega)
  rw [if_neg (by omega)] at h1
  have e : (some (⟨g, off, none⟩ : Addr)).map (·.add (m * (Kd.int .u8).sz)) = some ⟨g, off + m, none⟩ := by
    rw [Option.map_some, show (Kd.int .u8).sz = 1 from rfl, Nat.mul_one, add_off]
  rw [e] at h1
  exact h1
theorem C_bytes_nil (w : World) : (Kd.int .u8).C w none ([] : List Int).length [] := Kd.C_nil _ w
set_option maxHeartbeats 400000 in
set_option maxRecDepth 100000 in
theorem alive01 (w : World) : Calls Try.prog 16 #[] w fun e w' => e = .returned (.bool true) ∧ Below w.heap.size w w' := by
  have kc := fun (w : World) (C : Array Value) (n c : Nat) => Lib.run_convert_bytes_const (P := Try.prog) w 22 5 C n c Try.underlying22 Try.underlying5
  go_enter Try.func16, Try.ntmps16
  go_wp2_with fail
  clear kc
  have HC := Aside0.mk (C_lit (w := w.alloc (Obj.cells
    #[Value.int IntKind.u8 49, Value.int IntKind.u8 50, Value.int IntKind.u8 51, Value.int IntKind.u8 52,
      Value.int IntKind.u8 53, Value.int IntKind.u8 54, Value.int IntKind.u8 55, Value.int IntKind.u8 56,
      Value.int IntKind.u8 57]
    5 (9, 10))) [49, 50, 51, 52, 53, 54, 55, 56, 57] (heap_alloc_new w _) rfl (by decide))
  have HB := Aside0.mk (below_alloc (Below.refl w.heap.size w) (Obj.cells
    #[Value.int IntKind.u8 49, Value.int IntKind.u8 50, Value.int IntKind.u8 51, Value.int IntKind.u8 52,
      Value.int IntKind.u8 53, Value.int IntKind.u8 54, Value.int IntKind.u8 55, Value.int IntKind.u8 56,
      Value.int IntKind.u8 57]
    5 (9, 10)))
  generalize (w.alloc (Obj.cells
    #[Value.int IntKind.u8 49, Value.int IntKind.u8 50, Value.int IntKind.u8 51, Value.int IntKind.u8 52,
      Value.int IntKind.u8 53, Value.int IntKind.u8 54, Value.int IntKind.u8 55, Value.int IntKind.u8 56,
      Value.int IntKind.u8 57]
    5 (9, 10))) = w1 at HC HB ⊢
  have t1 : True := trivial
  have t2 : True := trivial
  go_region_with (first
    | (go_at_call 17; have _t := t1; refine (Of_calls _ _ [49, 50, 51, 52, 53, 54, 55, 56, 57] _ (by exact HC.out) (by decide)).mono ?_; rw [crc_fixed]; rintro e w2 ⟨rfl, hb⟩; go_must (
       have HC2 := Aside0.mk (Kd.C_below (by exact HC.out) hb); have HB2 := Aside0.mk (below_step (by first | exact HB.out | exact HB.out.drew) hb); clear HC HB hb t1; have HC := HC2; have HB := HB2; clear HC2 HB2))
    | (go_at_call 19; have _t := t2; refine (Join_calls _ _ [[49, 50, 51], [52, 53, 54, 55, 56, 57]] _ (by exact C_two rfl (K_bytes (l := [49, 50, 51]) (Kd.C_take (m := 3) HC.out (by decide)) (by decide)) (K_bytes (l := [52, 53, 54, 55, 56, 57]) (C_cut 3 HC.out (by decide)) (by decide))) (by decide)).mono ?_; rw [show ([[49, 50, 51], [52, 53, 54, 55, 56, 57]] : List (List Int)).flatten = [49, 50, 51, 52, 53, 54, 55, 56, 57] from rfl, crc_fixed]; rintro e w2 ⟨rfl, hb⟩; go_must (
       have HB2 := Aside0.mk (below_step (below_alloc HB.out _) hb.below); clear HC HB hb t2; have HB := HB2; clear HB2))
    | (go_at_call 19; refine (Join_calls _ _ [] _ (by exact Kd.C_nil _ _) (by decide)).mono ?_; rw [show ([] : List (List Int)).flatten = [] from rfl, crc_none]; rintro e w2 ⟨rfl, hb⟩; go_must (
       have HB2 := Aside0.mk (below_step HB.out hb.below); clear HB hb; have HB := HB2; clear HB2))
    | (go_at_call 17; refine (Of_calls _ _ [] _ (by exact C_bytes_nil _) (by decide)).mono ?_; rw [crc_none]; rintro e w2 ⟨rfl, hb⟩; go_must (
       have HB2 := Aside0.mk (below_step HB.out hb); clear HB hb; have HB := HB2; clear HB2)))
  go_wp2_with fail
  go_ret
  exact ⟨rfl, HB.out⟩
end Go.Proofs.Ytmbemlpmfklddaa.Own
