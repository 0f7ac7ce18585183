/- A record's frame. -/
import Derived.Test.YtmbemlpmfklddaaFr1
import Derived.Deep.RegionHeld3
namespace Go.Proofs.Ytmbemlpmfklddaa.Own
open Go.RowKit Go.Proofs.YtmbemlpmfklddaaW.PrintWords Go.Proofs.YtmbemlpmfklddaaW.PrintLast Go.Proofs.YtmbemlpmfklddaaW.PrintMore
set_option maxHeartbeats 1000000 in
set_option maxRecDepth 100000 in
theorem Write_bad (r : Rec) (A : Option Addr) (c : Nat) (w : World) (h : (Kd.int .u8).C w A r.2.length r.2) (hc : r.2.length ≤ c) (hr : ¬ okR r) :
    Calls Try.prog 28 #[.agg #[.int .i64 r.1, .slice A r.2.length c]] w fun e w' => e = .returned (.tuple #[.slice none 0 0, .int .i64 3]) ∧ Below w.heap.size w w' := by
  have hu49 := Try.underlying49
  obtain ⟨k, l⟩ := r
  simp only at h hc
  have H := Aside0.mk h
  have HR := Aside0.mk hr
  have hd : decide (okR (k, l)) = false := decide_eq_false hr
  clear h hr
  go_enter Try.func28, Try.ntmps28
  go_wp2_with (go_at_call 32; go_must (refine (Right_calls (k, l) A c _ (by exact Kd.C_below H.out (below_alloc (Below.refl _ _) _)) hc).mono ?_; rw [hd]; rintro e w1 ⟨rfl, hb⟩; have HB := Aside0.mk (below_step (below_alloc (Below.refl _ _) _) hb); clear hb))
  go_ret2
  exact ⟨rfl, HB.out⟩
theorem blk_drew {w : World} {g : Nat} {o : Obj} (h : w.heap[g]? = some o) : w.drew.heap[g]? = some o := h
theorem cells_box {w : World} {g : Nat} {k : Int} {A : Option Addr} {n c : Nat} (h : w.heap[g]? = some (.cells #[.int .i64 k, .slice A n c] 49 (0, 0))) : w.cell? ⟨g, 0, none⟩ = some (.int .i64 k) ∧ w.cell? ⟨g, 1, none⟩ = some (.slice A n c) :=
  ⟨cell_of_row w g 0 _ _ _ h, cell_of_row w g 1 _ _ _ h⟩
theorem C_four {w : World} {g : Nat} {t : TypeId} {fr : Nat × Nat} {A0 A1 A2 A3 : Option Addr} {n0 n1 n2 n3 c0 c1 c2 c3 : Nat} {x0 x1 x2 x3 : List Int} (hb : w.heap[g]? = some (.cells #[.slice A0 n0 c0, .slice A1 n1 c1, .slice A2 n2 c2, .slice A3 n3 c3] t fr))
    (e0 : n0 = x0.length) (e1 : n1 = x1.length) (e2 : n2 = x2.length) (e3 : n3 = x3.length) (k0 : x0.length ≤ c0) (k1 : x1.length ≤ c1) (k2 : x2.length ≤ c2) (k3 : x3.length ≤ c3)
    (h0 : (Kd.int .u8).C w A0 x0.length x0) (h1 : (Kd.int .u8).C w A1 x1.length x1) (h2 : (Kd.int .u8).C w A2 x2.length x2) (h3 : (Kd.int .u8).C w A3 x3.length x3) :
    (Kd.slice 5 (Kd.int .u8)).C w (some ⟨g, 0, none⟩) [x0, x1, x2, x3].length [x0, x1, x2, x3] := by
  subst e0 e1 e2 e3
  refine C_rows hb (by simp) (fun j x hj => ?_)
  match j, hj with
  | 0, hj =>
    obtain rfl : x0 = x := by simpa using hj
    exact ⟨_, _, rfl, k0, h0⟩
  | 1, hj =>
    obtain rfl : x1 = x := by simpa using hj
    exact ⟨_, _, rfl, k1, h1⟩
  | 2, hj =>
    obtain rfl : x2 = x := by simpa using hj
    exact ⟨_, _, rfl, k2, h2⟩
  | 3, hj =>
    obtain rfl : x3 = x := by simpa using hj
    exact ⟨_, _, rfl, k3, h3⟩
theorem frame_len {r : Rec} : (frameR r).length = r.2.length + 9 := by
  simp [frameR, fourB]
set_option maxHeartbeats 4000000 in
set_option maxRecDepth 100000 in
theorem Write_ok (r : Rec) (A : Option Addr) (c : Nat) (w : World) (h : (Kd.int .u8).C w A r.2.length r.2) (hc : r.2.length ≤ c) (hr : okR r) :
    Calls Try.prog 28 #[.agg #[.int .i64 r.1, .slice A r.2.length c]] w fun e w' => ∃ v, e = .returned (.tuple #[v, .int .i64 0]) ∧ OwnB w' w.heap.size v (frameR r) ∧ Below w.heap.size w w' := by
  have hu49 := Try.underlying49
  obtain ⟨k, l⟩ := r
  simp only at h hc
  have H := Aside0.mk h
  have HR := Aside0.mk hr
  have hd : decide (okR (k, l)) = true := decide_eq_true hr
  clear h hr
  go_enter Try.func28, Try.ntmps28
  go_wp2_with (go_at_call 32; go_must (refine (Right_calls (k, l) A c _ (by exact Kd.C_below H.out (below_alloc (Below.refl _ _) _)) hc).mono ?_; rw [hd]; rintro e w1 ⟨rfl, hb⟩; have HB := Aside0.mk (below_step (below_alloc (Below.refl _ _) _) hb); have c0 := cell_of_row w1 w.heap.size 0 _ _ _ (blk_below (heap_at rfl) hb); have c1 := cell_of_row w1 w.heap.size 1 _ _ _ (blk_below (heap_at rfl) hb); have c2 : w1.cell? ⟨w.heap.size, 0, none⟩ = some (.int .i64 k) := c0; have c3 : w1.cell? ⟨w.heap.size, 1, none⟩ = some (.slice A l.length c) := c1; have hg : w.heap.size < w1.heap.size := blk_lt (blk_below (heap_at rfl) hb); have HX := Aside0.mk (blk_below (heap_at (o := .cells #[Value.int .i64 k, Value.slice A l.length c] 49 (0, 0)) rfl) hb); clear hb c0 c1))
  have hlen : l.length ≤ 60000 := HR.out.2.2
  have hbx := Aside0.mk (show w1.heap[w.heap.size]? = some (.cells #[Value.int .i64 k, Value.slice A l.length c] 49 (0, 0)) from HX.out)
  clear HX
  go_region_held3 (fun w' => w'.cell? ⟨w.heap.size, 0, none⟩ = some (.int .i64 k) ∧ w'.cell? ⟨w.heap.size, 1, none⟩ = some (.slice A l.length c))
    (first
      | (focus (refine cells_box ?_; (repeat (first | with_reducible refine blk_alloc ?_ _ | with_reducible refine blk_drew ?_ | with_reducible refine blk_below ?_ HF.out | with_reducible refine blk_below ?_ HS.out | exact hbx.out)); done))
      | (focus (refine cells_box ?_; (repeat (first | with_reducible refine blk_alloc ?_ _ | with_reducible refine blk_drew ?_ | with_reducible refine blk_below ?_ HZ1.out | with_reducible refine blk_below ?_ HF.out | with_reducible refine blk_below ?_ HS.out | exact hbx.out)); done))
      | (focus (refine cells_box ?_; (repeat (first | with_reducible refine blk_alloc ?_ _ | with_reducible refine blk_drew ?_ | with_reducible refine blk_below ?_ HS.out | exact hbx.out)); done))
      | (focus (refine cells_box ?_; (repeat (first | with_reducible refine blk_alloc ?_ _ | with_reducible refine blk_drew ?_ | exact hbx.out)); done)))
    (first
    | (go_at_call 67; go_must (refine (sum_calls (k, l) A c _ (by exact Kd.C_below H.out (by repeat (first | exact HB.out | apply below_alloc | with_reducible apply Below.drew))) hc).mono ?_; rintro e w2 ⟨rfl, hb⟩; have HS := Aside0.mk hb; have HB2 := Aside0.mk (below_step (by repeat (first | exact HB.out | apply below_alloc | with_reducible apply Below.drew)) hb); clear hb))
    | (go_at_call 66; go_must (refine (four_calls _ _).mono ?_; rintro e w3 ⟨v4, rfl, O4, hb⟩; have HF := Aside0.mk hb; have HB3 := Aside0.mk (below_step (by repeat (first | exact HB2.out | apply below_alloc | with_reducible apply Below.drew)) hb); obtain ⟨f4, hf4⟩ : ∃ f4, f4 = fourB (sumR (k, l)) := ⟨_, rfl⟩; rw [← hf4] at O4; have HF4 := Aside0.mk hf4; clear hf4; obtain ⟨A4, c4, rfl, k4, C4⟩ := O4.slice; have HC4 := Aside0.mk C4; clear hb C4 O4))
    | (go_at_call 65; go_must (refine (Concat_calls _ 4 [[90, k % 256, (l.length : Int) / 256 % 256, (l.length : Int) % 256], l, f4, [165]] _ (by exact C_four (by repeat (first | (refine heap_at ?_; first | rfl | (simp; done)) | with_reducible refine blk_alloc ?_ _ | with_reducible refine blk_drew ?_ | with_reducible refine blk_below ?_ HF.out | with_reducible refine blk_below ?_ HS.out)) rfl rfl rfl rfl (by simp) hc k4 (by simp) (C_lit [90, k % 256, (l.length : Int) / 256 % 256, (l.length : Int) % 256] (by repeat (first | (refine heap_at ?_; first | rfl | (simp; done)) | with_reducible refine blk_alloc ?_ _ | with_reducible refine blk_drew ?_ | with_reducible refine blk_below ?_ HF.out | with_reducible refine blk_below ?_ HS.out)) (by simp [nums, IntKind.wrap_u8]) (by simp)) (Kd.C_below H.out (by repeat (first | exact HB3.out | apply below_alloc | with_reducible apply Below.drew))) (Kd.C_below HC4.out (by repeat (first | exact Below.refl _ _ | apply below_alloc | with_reducible apply Below.drew))) (C_lit [165] (by repeat (first | (refine heap_at ?_; first | rfl | (simp; done)) | with_reducible refine blk_alloc ?_ _ | with_reducible refine blk_drew ?_ | with_reducible refine blk_below ?_ HF.out | with_reducible refine blk_below ?_ HS.out)) rfl (by simp))) (by simp) (by simp) (by rw [HF4.out]; simp [fourB]; omega) (by simp)).mono ?_; rintro e w4 ⟨v, rfl, O5, hb⟩; have HZ := Aside0.mk (below_step (by repeat (first | exact HB3.out | apply below_alloc | with_reducible apply Below.drew)) hb); have HO := Aside0.mk (show OwnB w4 w.heap.size v _ from O5.lower (by have := HB3.out.size; simp; omega)); have HZ1 := Aside0.mk hb; clear O5 hb)))
  all_goals
    go_wp2_with fail
    go_ret2
    refine ⟨v, rfl, ?_, HZ.out⟩
    have e : frameR (k, l) = [[90, k % 256, (l.length : Int) / 256 % 256, (l.length : Int) % 256], l, f4, [165]].flatten := by rw [HF4.out]; simp [frameR]
    rw [e]
    exact HO.out
end Go.Proofs.Ytmbemlpmfklddaa.Own
