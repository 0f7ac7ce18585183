/- The fixed calls of layer 12's laws come to true. -/
import Derived.Test.YtmbemlpmfklddaaHere
import Derived.Test.YtmbemlpmfklddaaCrcAlive
namespace Go.Proofs.Ytmbemlpmfklddaa.Own
open Go.RowKit Go.Proofs.YtmbemlpmfklddaaW.PrintWords Go.Proofs.YtmbemlpmfklddaaW.PrintLast Go.Proofs.YtmbemlpmfklddaaW.PrintMore
def a0 : Dm := Dm.new 64
def a1 : Dm := a0.write 5 [97, 98, 99]
def a2 : Dm := a1.settle 2
def a3 : Dm := a2.write 60 [119, 120, 121, 122]
def a4 : Dm := a3.flush
def a5 : Dm := a4.settle 9
theorem r1 : a1.read 4 5 = [0, 97, 98, 99, 0] := by decide +kernel
theorem r2 : a2.read 4 5 = [0, 97, 98, 0, 0] := by decide +kernel
theorem r3 : a5.read 60 4 = [119, 120, 121, 122] := by decide +kernel
theorem q1 : strOfNums (a1.read 4 5) = ⟨#[0, 97, 98, 99, 0]⟩ := by rw [r1]; rfl
theorem q2 : strOfNums (a2.read 4 5) = ⟨#[0, 97, 98, 0, 0]⟩ := by rw [r2]; rfl
theorem q3 : strOfNums (a5.read 60 4) = ⟨#[119, 120, 121, 122]⟩ := by rw [r3]; rfl
theorem r4 : a5.fl = 1 ∧ a5.wr = 7 ∧ a5.b.length = 64 ∧ a5.q = [] := by decide +kernel
set_option maxHeartbeats 1000000 in
set_option maxRecDepth 100000 in
theorem alive12 (w : World) : Calls Try.prog 25 #[] w fun e w' => e = .returned (.bool true) ∧ Below w.heap.size w w' := by
  have kc := fun (w : World) (C : Array Value) (n c : Nat) => Lib.run_convert_bytes_const (P := Try.prog) w 22 5 C n c Try.underlying22 Try.underlying5
  have H := Aside0.mk (Here.nil w)
  have t1 : True := trivial
  have t2 : True := trivial
  have t3 : True := trivial
  have t4 : True := trivial
  have t5 : True := trivial
  have t6 : True := trivial
  have t7 : True := trivial
  go_enter Try.func25, Try.ntmps25
  go_wp2_with (first
    | (go_at_call 20; go_must (refine (New_here H.out 64 (by decide) (by decide)).mono ?_; rintro e w1 ⟨g, rfl, h⟩; have H1 := Aside0.mk h; clear H h; have H := H1; clear H1))
    | (go_at_call 21; have _t := t1; go_must (refine (Write_here (d := a0) (g := g) (Ps := []) (by exact H.out.alloc _) (by decide) 5 _ _ [97, 98, 99] (by exact C_lit [97, 98, 99] (heap_alloc_new _ _) rfl (by decide)) (by decide)).mono ?_; rintro e w2 ⟨rfl, h⟩; have H1 := Aside0.mk h; clear H h t1; have H := H1; clear H1))
    | (go_at_call 24; have _t := t2; go_must (refine (Read_here (d := a1) (g := g) (Ps := []) H.out (by decide +kernel) 4 5 (by decide +kernel)).mono ?_; rintro e w3 ⟨v1, rfl, h⟩; have H1 := Aside0.mk h; clear H h t2; have H := H1; clear H1))
    | (go_at_call 22; have _t := t3; go_must (refine (Crash_here (d := a1) (g := g) (Ps := [BytesT v1 (a1.read 4 5)]) H.out.swap (by decide +kernel) 2).mono ?_; rintro e w4 ⟨rfl, h⟩; have H1 := Aside0.mk h; clear H h t3; have H := H1; clear H1))
    | (go_at_call 24; have _t := t4; go_must (refine (Read_here (d := a2) (g := g) (Ps := [BytesT v1 (a1.read 4 5)]) H.out (by decide +kernel) 4 5 (by decide +kernel)).mono ?_; rintro e w5 ⟨v2, rfl, h⟩; have H1 := Aside0.mk h; clear H h t4; have H := H1; clear H1))
    | (go_at_call 21; have _t := t5; go_must (refine (Write_here (d := a2) (g := g) (Ps := [BytesT v2 (a2.read 4 5), BytesT v1 (a1.read 4 5)]) (by exact H.out.swap.alloc _) (by decide +kernel) 60 _ _ [119, 120, 121, 122] (by exact C_lit [119, 120, 121, 122] (heap_alloc_new _ _) rfl (by decide)) (by decide +kernel)).mono ?_; rintro e w6 ⟨rfl, h⟩; have H1 := Aside0.mk h; clear H h t5; have H := H1; clear H1))
    | (go_at_call 23; go_must (refine (Flush_here (d := a3) (g := g) (Ps := [BytesT v2 (a2.read 4 5), BytesT v1 (a1.read 4 5)]) H.out (by decide +kernel)).mono ?_; rintro e w7 ⟨rfl, h⟩; have H1 := Aside0.mk h; clear H h; have H := H1; clear H1))
    | (go_at_call 22; have _t := t6; go_must (refine (Crash_here (d := a4) (g := g) (Ps := [BytesT v2 (a2.read 4 5), BytesT v1 (a1.read 4 5)]) H.out (by decide +kernel) 9).mono ?_; rintro e w8 ⟨rfl, h⟩; have H1 := Aside0.mk h; clear H h t6; have H := H1; clear H1))
    | (go_at_call 24; have _t := t7; go_must (refine (Read_here (d := a5) (g := g) (Ps := [BytesT v2 (a2.read 4 5), BytesT v1 (a1.read 4 5)]) H.out (by decide +kernel) 60 4 (by decide +kernel)).mono ?_; rintro e w9 ⟨v3, rfl, h⟩; have H1 := Aside0.mk h; clear H h t7; have H := H1; clear H1))
    | (go_at_call 64; go_must (refine (Counts_here (d := a5) (g := g) (Ps := [BytesT v3 (a5.read 60 4), BytesT v2 (a2.read 4 5), BytesT v1 (a1.read 4 5)]) H.out.swap).mono ?_; rw [r4.1, r4.2.1]; rintro e w10 ⟨rfl, h⟩; obtain ⟨A3, c3, rfl, k3, C3⟩ := h.drop.bytes.slice; obtain ⟨A2, c2, rfl, k2, C2⟩ := h.drop.drop.bytes.slice; obtain ⟨A1, c1, rfl, k1, C1⟩ := h.drop.drop.drop.bytes.slice; have s1 := Kd.C_string (P := Try.prog) (c := c1) Try.underlying22 Try.underlying5 Try.underlying9 C1; have s2 := Kd.C_string (P := Try.prog) (c := c2) Try.underlying22 Try.underlying5 Try.underlying9 C2; have s3 := Kd.C_string (P := Try.prog) (c := c3) Try.underlying22 Try.underlying5 Try.underlying9 C3; rw [q1] at s1; rw [q2] at s2; rw [q3] at s3; have H1 := Aside0.mk h; clear H h C1 C2 C3; have H := H1; clear H1))
    | (go_at_call 21; go_must (refine (WriteNo_here H.out 61 _ _ 4 (by decide) (by decide +kernel)).mono ?_; rintro e w11 ⟨rfl, rfl⟩))
    | (go_at_call 62; go_must (refine (Size_here H.out).mono ?_; rw [r4.2.2.1]; rintro e w12 ⟨rfl, rfl⟩)))
  go_ret
  exact ⟨rfl, H.out.below⟩
end Go.Proofs.Ytmbemlpmfklddaa.Own
