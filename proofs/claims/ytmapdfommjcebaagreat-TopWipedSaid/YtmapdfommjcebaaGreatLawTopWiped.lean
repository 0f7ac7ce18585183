/- The law TopWiped: whatever its arguments, the call comes to true, and nothing that was there has turned. -/
import Derived.Test.YtmapdfommjcebaaGreatRows
import Derived.Test.YtmapdfommjcebaaGreatOpen
import Derived.Test.YtmapdfommjcebaaGreatTp3
namespace Go.Proofs.YtmapdfommjcebaaGreat.topWiped
open Go.ChangeShapes Go.WideShapes Go.ChangeAt Go.RowKit Go.Proofs.YtmapdfommjcebaaGreat.Own
open Go.Proofs.YtmapdfommjcebaaGreatW.PrintWords
open Go.ChangeMaps (open_string shut_string)
set_option linter.unusedVariables false
theorem own : ownKnob Tryz.prog.godebug = none := by kernel_rfl
theorem laidOut : laidOutB Tryz.prog = true := by kernel_rfl
set_option maxRecDepth 100000 in
theorem lifted (os : Os) (started : os.Started) (H : Type) (enc : TypeId × Value → H) :
    ReturnsInHanded {} Tryz.checked os 3 .any (Rows.topWipedSpec.pre6 enc Tryz.prog Tryz.f3 Rows.topWipedRow.domain false) (Rows.topWipedSpec.post enc Tryz.prog Tryz.f3 false true false false) := by
  refine returnsInHanded_of_change_sized (C := Tryz.checked) own started (by kernel_rfl) Tryz.func3
    (ChangeSpec.witness6 (enc := enc) (C := Tryz.checked) false ⟨#[], #[.slice none 0 0, .slice none 0 0], []⟩ 8 (by kernel_rfl) (by kernel_rfl) (by kernel_rfl) (by kernel_rfl)) ?_
  intro W base args ds gs before hval0 hW hcnd hsz0 _
  have hval : ∀ (j : Nat) t v, Tryz.f3.params[j]? = some t → args[j]? = some v → Value.okWide Tryz.prog W .any base t v := hval0
  have hW' := hW
  obtain ⟨p, q, hA0, hV, rfl, hfz, hnd⟩ := hW
  have hA : DataW.TrodAll enc Tryz.prog W 0 (fun _ => true) true Tryz.f3.params.toList args.toList ds p := hA0
  rw [Tryz.params3] at hA hval
  obtain ⟨v0, vs0, d0, ds0, p0, q0, hargs, rfl, rfl, t0, r0⟩ := trodAll_cons hA
  obtain ⟨v1, vs1, d1, ds1, p1, q1, rfl, rfl, rfl, t1, r1⟩ := trodAll_cons r0
  obtain ⟨rfl, rfl, rfl⟩ := trodAll_nil r1
  obtain rfl : args = #[v0, v1] := by cases args; simp_all
  obtain ⟨rfl, rfl⟩ := trodVars_none hV
  have s0 := t0
  have lt0 : ∀ x ∈ p0, x.block < W.heap.size := by obtain ⟨m, hm⟩ := s0; exact DataW.trod_lt m _ _ _ hm
  obtain ⟨A0, c0, l0, rfl, k0, h0, q0⟩ := open_arg (e := 35) (d := k35) Tryz.underlying22 (by kernel_rfl) opens35 (hval 0 22 v0 rfl rfl) t0
  have s1 := t1
  have lt1 : ∀ x ∈ p1, x.block < W.heap.size := by obtain ⟨m, hm⟩ := s1; exact DataW.trod_lt m _ _ _ hm
  obtain ⟨A1, c1, l1, rfl, k1, h1, q1⟩ := open_arg (e := 29) (d := Kd.slice 5 (Kd.int .u8)) Tryz.underlying23 (by kernel_rfl) opensRows (hval 1 23 v1 rfl rfl) t1
  clear hA0 hval0 hsz0
  refine (TopWiped_calls A0 c0 l0 A1 c1 l1 W h0 q0 h1 q1).mono fun e W' ⟨he, bel⟩ => ?_
  subst he
  exact ⟨_, rfl, _, _, _, [], _, [], hW', trodAll_mk1 (shut_bool Tryz.underlying4 _), (trodAll_cons_mk (Below.trod laidOut (by kernel_rfl) (of_decide_eq_true (by kernel_rfl)) s0 bel lt0) (trodAll_cons_mk (Below.trod laidOut (by kernel_rfl) (of_decide_eq_true (by kernel_rfl)) s1 bel lt1) trodAll_mk0)), rfl, bel.frame _, fun h => by cases h⟩
theorem over : Rows.topWipedRow.holds Tryz.pinned (OpenSpec.ofChange Rows.topWipedSpec) :=
  OpenClaim.holds_of_wide 3 Tryz.f3 rfl rfl rfl rfl rfl rfl rfl ⟨rfl, rfl, rfl, rfl, rfl⟩ rfl rfl rfl rfl rfl (by kernel_rfl) Tryz.func3 (by kernel_rfl)
    (of_decide_eq_true (by kernel_rfl)) (by unfold Func.isWrapper; first | (rw [if_pos (by decide +kernel)]; kernel_rfl) | (rw [if_neg (by decide +kernel)]; exact ⟨rfl, rfl⟩))
    (fun os started H enc _ => lifted os started H enc)
theorem proved : Rows.TopWipedSaid := over
end Go.Proofs.YtmapdfommjcebaaGreat.topWiped
namespace Go.Proofs.YtmapdfommjcebaaGreat
/-- The row, under a short name, for the claim. -/
theorem topWiped_holds : Rows.TopWipedSaid := topWiped.proved
#print axioms topWiped_holds
end Go.Proofs.YtmapdfommjcebaaGreat
