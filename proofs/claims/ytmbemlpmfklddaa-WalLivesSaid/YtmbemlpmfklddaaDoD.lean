/- A log that is nil, or that no call made, says so. -/
import Derived.Test.YtmbemlpmfklddaaDoB
namespace Go.Proofs.Ytmbemlpmfklddaa.Own
open Go.RowKit Go.Proofs.YtmbemlpmfklddaaW.PrintWords Go.Proofs.YtmbemlpmfklddaaW.PrintLast Go.Proofs.YtmbemlpmfklddaaW.PrintMore
section
variable {W : World} {a : Addr}
set_option maxHeartbeats 400000 in
set_option maxRecDepth 100000 in
theorem made_nil (W : World) : Calls Try.prog 82 #[.pointer none] W fun e W' => e = .returned (.bool false) ∧ W = W' := by
  go_enter Try.func82, Try.ntmps82
  go_wp2_with fail
  go_ret
  exact ⟨rfl, rfl⟩
set_option maxHeartbeats 400000 in
set_option maxRecDepth 100000 in
theorem made_zero {gz : Nat} (c0 : W.cell? ⟨gz, 0, none⟩ = some (.pointer none)) : Calls Try.prog 82 #[.pointer (some ⟨gz, 0, none⟩)] W fun e W' => e = .returned (.bool false) ∧ W = W' := by
  go_enter Try.func82, Try.ntmps82
  go_wp2_with fail
  go_ret
  exact ⟨rfl, rfl⟩
set_option maxHeartbeats 400000 in
set_option maxRecDepth 100000 in
theorem Sync_nil (W : World) : Calls Try.prog 47 #[.pointer none] W fun e W' => e = .returned (.int .i64 6) ∧ W = W' := by
  go_enter Try.func47, Try.ntmps47
  go_wp2_with (go_at_call 82; go_must (refine (made_nil _).mono ?_; rintro e w1 ⟨rfl, rfl⟩))
  go_ret
  exact ⟨rfl, rfl⟩
set_option maxHeartbeats 400000 in
set_option maxRecDepth 100000 in
theorem Step_zero {gz : Nat} (c0 : W.cell? ⟨gz, 0, none⟩ = some (.pointer none)) : Calls Try.prog 49 #[.pointer (some ⟨gz, 0, none⟩)] W fun e W' => e = .returned (.tuple #[.int .i64 0, .int .i64 6]) ∧ W = W' := by
  have C := Aside0.mk c0
  clear c0
  go_enter Try.func49, Try.ntmps49
  go_wp2_with (go_at_call 82; go_must (refine (made_zero C.out).mono ?_; rintro e w1 ⟨rfl, rfl⟩))
  go_ret2
  exact ⟨rfl, rfl⟩
theorem framed_nil (W : World) : Calls Try.prog 83 #[.slice none 0 0] W fun e W' => ∃ v, e = .returned (.tuple #[v, .bool true]) ∧ Here W W' [BytesT v (framesOf (recsOf 1 []))] :=
  framed_calls none 0 [] W ⟨rfl, by decide, fun h => by simp at h⟩ (by simp) (by simp)
set_option maxHeartbeats 400000 in
set_option maxRecDepth 100000 in
theorem Begin_zero {gz : Nat} (c0 : W.cell? ⟨gz, 0, none⟩ = some (.pointer none)) : Calls Try.prog 48 #[.pointer (some ⟨gz, 0, none⟩), .slice none 0 0] W fun e W' => e = .returned (.int .i64 6) ∧ Below W.heap.size W W' := by
  have C := Aside0.mk c0
  clear c0
  go_enter Try.func48, Try.ntmps48
  go_wp2_with (first
    | (go_at_call 83; go_must (refine (framed_nil _).mono ?_; rintro e w1 ⟨v, rfl, h⟩; obtain ⟨Ab, cb, rfl, kb, _⟩ := h.bytes.slice; have HB := Aside0.mk h.below; clear h))
    | (go_at_call 82; go_must (refine (made_zero (pw_cell_below HB.out C.out)).mono ?_; rintro e w2 ⟨rfl, rfl⟩)))
  go_ret
  exact ⟨rfl, HB.out⟩
set_option maxHeartbeats 400000 in
set_option maxRecDepth 100000 in
theorem Format_nil (W : World) : Calls Try.prog 45 #[.pointer none] W fun e W' => e = .returned (.tuple #[.pointer none, .int .i64 6]) ∧ W = W' := by
  go_enter Try.func45, Try.ntmps45
  go_wp2_with (go_at_call 62; go_must (refine (Size_nil _).mono ?_; rintro e w' ⟨rfl, rfl⟩))
  go_ret2
  exact ⟨rfl, rfl⟩
set_option maxHeartbeats 400000 in
set_option maxRecDepth 100000 in
theorem size_nil (W : World) : Calls Try.prog 74 #[.pointer none] W fun e W' => e = .returned (.int .i64 (-16)) ∧ W = W' := by
  have u1 : IntKind.i64.wrap ((0 : Int) - 32) = -32 := by decide
  have u2 : (-32 : Int).tdiv 2 = -16 := by decide
  have u3 : IntKind.i64.wrap (-16 : Int) = -16 := by decide
  go_enter Try.func74, Try.ntmps74
  go_wp2_with (go_at_call 62; go_must (refine (Size_nil _).mono ?_; rintro e w' ⟨rfl, rfl⟩))
  go_ret
  exact ⟨rfl, rfl⟩
set_option maxHeartbeats 400000 in
set_option maxRecDepth 100000 in
theorem place_nil (W : World) : Calls Try.prog 73 #[.pointer none, .int .i64 0, .int .i64 0] W fun e W' => e = .returned (.int .i64 32) ∧ W = W' := by
  go_enter Try.func73, Try.ntmps73
  go_wp2_with (go_at_call 74; go_must (refine (size_nil _).mono ?_; rintro e w' ⟨rfl, rfl⟩))
  go_ret
  exact ⟨rfl, rfl⟩
set_option maxHeartbeats 1000000 in
set_option maxRecDepth 100000 in
theorem Append_nil (A : Option Addr) (c : Nat) (W : World) (hC : (Kd.int .u8).C W A 1 [1]) (hc : 1 ≤ c) : Calls Try.prog 46 #[.pointer none, .slice A 1 c] W fun e W' => e = .returned (.tuple #[.int .i64 0, .int .i64 6]) ∧ Below W.heap.size W W' := by
  have HC := Aside0.mk hC
  have HH := Aside0.mk (Here.nil W)
  have gok : okR (2, [1]) := ⟨(by omega : (1 : Int) ≤ 2), (by omega : (2 : Int) ≤ 255), by simp⟩
  clear hC
  go_enter Try.func46, Try.ntmps46
  go_wp2_with (first
    | (go_at_call 28; go_must (refine (WriteF_here HH.out (2, [1]) A c HC.out hc gok).mono ?_; rintro e w1 ⟨v, rfl, h⟩; obtain ⟨A6, cc, rfl, k6, _⟩ := h.bytes.slice; have HI := Aside0.mk h; clear h HH))
    | (go_at_call 82; go_must (refine (made_nil _).mono ?_; rintro e w1 ⟨rfl, rfl⟩)))
  go_ret2
  exact ⟨rfl, HI.out.below⟩
set_option maxHeartbeats 400000 in
set_option maxRecDepth 100000 in
theorem All_nil (W : World) : Calls Try.prog 56 #[.pointer none] W fun e W' => e = .returned (.int .i64 0) ∧ W = W' := by
  go_enter Try.func56, Try.ntmps56
  go_wp2_with fail
  go_ret
  exact ⟨rfl, rfl⟩
set_option maxHeartbeats 400000 in
set_option maxRecDepth 100000 in
theorem Stage_nil (W : World) : Calls Try.prog 51 #[.pointer none] W fun e W' => e = .returned (.int .i64 0) ∧ W = W' := by
  go_enter Try.func51, Try.ntmps51
  go_wp2_with fail
  go_ret
  exact ⟨rfl, rfl⟩
set_option maxHeartbeats 400000 in
set_option maxRecDepth 100000 in
theorem Gen_nil (W : World) : Calls Try.prog 58 #[.pointer none] W fun e W' => e = .returned (.int .u32 0) ∧ W = W' := by
  go_enter Try.func58, Try.ntmps58
  go_wp2_with fail
  go_ret
  exact ⟨rfl, rfl⟩
set_option maxHeartbeats 400000 in
set_option maxRecDepth 100000 in
theorem Sure_zero {gz : Nat} (c5 : W.cell? ⟨gz, 5, none⟩ = some (.int .i64 0)) : Calls Try.prog 57 #[.pointer (some ⟨gz, 0, none⟩)] W fun e W' => e = .returned (.int .i64 0) ∧ W = W' := by
  go_enter Try.func57, Try.ntmps57
  go_wp2_with fail
  go_ret
  exact ⟨rfl, rfl⟩
set_option maxHeartbeats 400000 in
set_option maxRecDepth 100000 in
theorem Room_nil (W : World) : Calls Try.prog 53 #[.pointer none] W fun e W' => e = .returned (.int .i64 0) ∧ W = W' := by
  go_enter Try.func53, Try.ntmps53
  go_wp2_with (go_at_call 82; go_must (refine (made_nil _).mono ?_; rintro e w1 ⟨rfl, rfl⟩))
  go_ret
  exact ⟨rfl, rfl⟩
set_option maxHeartbeats 400000 in
set_option maxRecDepth 100000 in
theorem Room_zero {gz : Nat} (c0 : W.cell? ⟨gz, 0, none⟩ = some (.pointer none)) : Calls Try.prog 53 #[.pointer (some ⟨gz, 0, none⟩)] W fun e W' => e = .returned (.int .i64 0) ∧ W = W' := by
  have C := Aside0.mk c0
  clear c0
  go_enter Try.func53, Try.ntmps53
  go_wp2_with (go_at_call 82; go_must (refine (made_zero C.out).mono ?_; rintro e w1 ⟨rfl, rfl⟩))
  go_ret
  exact ⟨rfl, rfl⟩
set_option maxHeartbeats 1000000 in
set_option maxRecDepth 100000 in
theorem Areas_nil (W : World) : Calls Try.prog 50 #[.pointer none] W fun e W' => e = .returned (.tuple #[.agg #[.slice none 0 0, .slice none 0 0], .int .i64 6]) ∧ Below W.heap.size W W' := by
  have HH := Aside0.mk (((Here.nil W).newCells #[.slice none 0 0, .slice none 0 0] 90).newCells #[.slice none 0 0, .slice none 0 0] 90)
  go_enter Try.func50, Try.ntmps50
  go_wp2_with fail
  go_loopw [8] (fun v8 wr => v8 = .int .i64 0 ∧ wr = (W.alloc (.cells #[.slice none 0 0, .slice none 0 0] 90)).alloc (.cells #[.slice none 0 0, .slice none 0 0] 90)) (fun _ _ => 0)
  case atStart => exact ⟨rfl, rfl⟩
  case round =>
    obtain ⟨rfl, rfl⟩ := hrel
    go_wp2_with (first
      | (go_at_call 73; go_must (refine (place_nil _).mono ?_; rintro e w1 ⟨rfl, rfl⟩))
      | (go_at_call 74; go_must (refine (size_nil _).mono ?_; rintro e w1 ⟨rfl, rfl⟩))
      | (go_at_call 24; go_must (refine (Read_nil 32 (-16) _).mono ?_; rintro e w1 ⟨rfl, rfl⟩)))
    refine bodyPost_ret (results_ct rfl _ _ W.heap.size 90 #[.slice none 0 0, .slice none 0 0] (0, 0) _ rfl HH.out.swap.cells Try.underlying90 rfl (by kernel_rfl)) rfl ?_
    exact ⟨rfl, HH.out.below⟩
end
end Go.Proofs.Ytmbemlpmfklddaa.Own
