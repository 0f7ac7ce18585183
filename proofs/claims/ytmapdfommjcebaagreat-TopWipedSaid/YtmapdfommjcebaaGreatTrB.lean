/- The fixed tree: leaves, edges, a copy of the edges. The fixed tree: all its edges may be. The fixed tree: a copy of its edges. The fixed tree: all nodes are come to from one. The fixed tree: the walk. The fixed tree may be. -/
import Derived.Test.YtmapdfommjcebaaGreatTrA
import Derived.Deep.RegionHeld3
import Derived.BigQuiet
import Derived.Deep.QuietTactic
import Derived.ArgAppend
namespace Go.Proofs.YtmapdfommjcebaaGreat.Own
open Go.RowKit Go.Proofs.YtmapdfommjcebaaGreatW.PrintWords Go.Proofs.YtmapdfommjcebaaGreatW.PrintLast Go.Proofs.YtmapdfommjcebaaGreatW.PrintMore
open PTopWiped
attribute [local go_sem high] eqA142
theorem OwnI.form {w : World} {base : Nat} {v : Value} {xs : List Int} (h : OwnI w base v xs) (h0 : 0 < xs.length) : ∃ g cap, v = .slice (some ⟨g, 0, none⟩) xs.length cap ∧ xs.length ≤ cap ∧ base ≤ g ∧ ∀ (i : Nat) (x : Int), xs[i]? = some x → w.cell? ⟨g, i, none⟩ = some (.int .i64 x) := by
  obtain ⟨g, cap, e, hb, _⟩ := World.ownsRow.form h h0
  obtain ⟨A, c, e2, hc, hC⟩ := h.slice
  rw [e] at e2
  injection e2 with e2 _ e3
  subst e2 e3
  refine ⟨g, cap, e, hc, hb, fun i x hx => ?_⟩
  obtain ⟨ad, ea, h1⟩ := atInts hC i x hx
  injection ea with ea
  subst ea
  rw [add_off, Nat.zero_add] at h1
  exact h1
set_option maxHeartbeats 8000000 in
set_option maxRecDepth 100000 in
theorem leaf_calls (w : World) (A : Addr) (c : Nat) (n m : Int) (hC : Kd.C k142 w (some A) 5 tes) (hn : nextTo n 12 = [m]) (hm : tKind m = 3) :
    Calls Tryz.prog 87 #[.agg #[Value.int .i64 1, .int .i64 2, .int .i64 2, .int .i64 3, .int .i64 3, .int .i64 1, .int .i64 0, .int .i64 0, .int .i64 0, .int .i64 0, .int .i64 0, .int .i64 0, .slice (some A) 5 c], .int .i64 n] w fun e w' => e = .returned (.bool true) ∧ Below w.heap.size w w' := by
  have HC := Aside0.mk (Kd.C_below hC (below_alloc (Below.refl w.heap.size w) (.cells #[Value.int .i64 1, .int .i64 2, .int .i64 2, .int .i64 3, .int .i64 3, .int .i64 1, .int .i64 0, .int .i64 0, .int .i64 0, .int .i64 0, .int .i64 0, .int .i64 0, .slice (some A) 5 c] 99)))
  have HX := Aside0.mk (heap_at (w := w) (o := .cells #[Value.int .i64 1, .int .i64 2, .int .i64 2, .int .i64 3, .int .i64 3, .int .i64 1, .int .i64 0, .int .i64 0, .int .i64 0, .int .i64 0, .int .i64 0, .int .i64 0, .slice (some A) 5 c] 99) (g := w.heap.size) rfl)
  have HM := Aside0.mk hm
  have HN := Aside0.mk hn
  clear hC hm hn
  go_enter Tryz.func87, Tryz.ntmps87
  go_wp2_with (go_at_call 101; go_must (refine (Next_calls _ A c n HC.out).mono ?_; rw [HN.out]; rintro e w1 ⟨v, rfl, h1, h2⟩; obtain ⟨g, cap, rfl, hcap, _, hg⟩ := OwnI.form h1 (by simp); have HB := Aside0.mk (below_step (below_alloc (Below.refl w.heap.size w) _) h2); obtain ⟨m0, m1, m2, m3, m4, m5, m6, m7, m8, m9, m10, m11, m12⟩ := tv_cells (blk_below HX.out h2); have c0 := hg 0 m rfl; have HX2 := Aside0.mk (blk_below HX.out h2); clear h1 h2 hg HX HC HN))
  go_region_with (first | (go_at_call 69; go_must (refine (Kind_calls _ A c m).mono ?_; rw [HM.out]; rintro e w2 ⟨rfl, h⟩; have HB2 := Aside0.mk (below_step HB.out.drew h); clear h HB)))
  all_goals (go_wp2_with fail)
  all_goals go_ret
  all_goals exact ⟨rfl, HB2.out⟩
end Go.Proofs.YtmapdfommjcebaaGreat.Own
namespace Go.Proofs.YtmapdfommjcebaaGreat.Own
open Go.RowKit Go.Proofs.YtmapdfommjcebaaGreatW.PrintWords Go.Proofs.YtmapdfommjcebaaGreatW.PrintLast Go.Proofs.YtmapdfommjcebaaGreatW.PrintMore
open PTopWiped
attribute [local go_sem high] eqA142
theorem edge_facts : ∀ i, i < 5 → ∃ x0 x1 : Int, tes[i]? = some ⟨x0, x1⟩ ∧ decide (1 ≤ tKind x0) = true ∧ decide (1 ≤ tKind x1) = true ∧ (x0 == x1) = false ∧ tree_Edge_100.f 12 (tes.take i) x0 x1 = some false ∧ tree_Edge_100.f 12 (tes.take i) x1 x0 = some false
  | 0, _ => ⟨1, 4, rfl, by kernel_rfl, by kernel_rfl, by kernel_rfl, by kernel_rfl, by kernel_rfl⟩
  | 1, _ => ⟨2, 4, rfl, by kernel_rfl, by kernel_rfl, by kernel_rfl, by kernel_rfl, by kernel_rfl⟩
  | 2, _ => ⟨4, 5, rfl, by kernel_rfl, by kernel_rfl, by kernel_rfl, by kernel_rfl, by kernel_rfl⟩
  | 3, _ => ⟨3, 5, rfl, by kernel_rfl, by kernel_rfl, by kernel_rfl, by kernel_rfl, by kernel_rfl⟩
  | 4, _ => ⟨6, 5, rfl, by kernel_rfl, by kernel_rfl, by kernel_rfl, by kernel_rfl, by kernel_rfl⟩
  | n + 5, h => absurd h (by omega)
theorem C_take {w : World} {A : Addr} (h : Kd.C k142 w (some A) 5 tes) (i : Nat) (hi : i ≤ 5) : Kd.C k142 w (some A) (tes.take i).length (tes.take i) := by
  refine ⟨rfl, ?_, fun hp => ?_⟩
  · rw [List.length_take]; exact Nat.le_trans (Nat.min_le_left _ _) (by omega)
  · obtain ⟨ad, e, h2⟩ := h.2.2 (by show 0 < tes.length; decide)
    refine ⟨ad, e, fun j x hj => ?_⟩
    have hl := (List.getElem?_eq_some_iff.1 hj).1
    rw [List.length_take] at hl
    rw [List.getElem?_take_of_lt (by omega)] at hj
    exact h2 j x hj
set_option maxHeartbeats 8000000 in
theorem ContEdge_calls (w : World) (A : Addr) (c i : Nat) (x0 x1 : Int) (hi : i ≤ 5) (hC : Kd.C k142 w (some A) 5 tes) (hc : 5 ≤ c) (hf : tree_Edge_100.f 12 (tes.take i) x0 x1 = some false) :
    Calls Tryz.prog 100 #[.slice (some A) i c, .agg #[.int .i64 x0, .int .i64 x1]] w fun e w' => e = .returned (.bool false) ∧ Below w.heap.size w w' := by
  have hl : (tes.take i).length = i := by rw [List.length_take]; show min i 5 = i; omega
  have h := tree_Edge_100.calls 12 (some A) c (tes.take i) x0 x1 false w (C_take hC i hi) (by omega) hf
  rw [hl] at h
  exact h
theorem info142 : (Tryz.prog.info? 142).map (fun i => i.size) = some 2 := by kernel_rfl
theorem run_takeE (A : Addr) (c i : Nat) (hi : i ≤ 5) (hc : 5 ≤ c) :
    ∀ W : World, (Instr.slice 97 (.slice (some A) 5 c) none (some (.int .i64 (i : Int))) none).run Tryz.prog W = .ok (.slice (some A) i c) W := by
  obtain ⟨i0, hi0, hzz⟩ := Option.map_eq_some_iff.1 info142
  have h := cut_to 97 142 .i64 Tryz.underlying97 hi0 (some A) 5 c (i : Int) (by omega) (by omega) hc
  rw [Int.toNat_natCast] at h
  exact h
theorem held_edge {w : World} {g g' : Nat} {A : Addr} {c : Nat} {x0 x1 : Int} (h : w.heap[g]? = some (.cells #[Value.int .i64 1, .int .i64 2, .int .i64 2, .int .i64 3, .int .i64 3, .int .i64 1, .int .i64 0, .int .i64 0, .int .i64 0, .int .i64 0, .int .i64 0, .int .i64 0, .slice (some A) 5 c] 99 (0, 0))) (h' : w.heap[g']? = some (.cells #[.int .i64 x0, .int .i64 x1] 142 (0, 0))) :
    (w.cell? ⟨g, 0, none⟩ = some (.int .i64 1) ∧ w.cell? ⟨g, 1, none⟩ = some (.int .i64 2) ∧ w.cell? ⟨g, 2, none⟩ = some (.int .i64 2) ∧ w.cell? ⟨g, 3, none⟩ = some (.int .i64 3) ∧ w.cell? ⟨g, 4, none⟩ = some (.int .i64 3) ∧ w.cell? ⟨g, 5, none⟩ = some (.int .i64 1) ∧ w.cell? ⟨g, 6, none⟩ = some (.int .i64 0) ∧ w.cell? ⟨g, 7, none⟩ = some (.int .i64 0) ∧ w.cell? ⟨g, 8, none⟩ = some (.int .i64 0) ∧ w.cell? ⟨g, 9, none⟩ = some (.int .i64 0) ∧ w.cell? ⟨g, 10, none⟩ = some (.int .i64 0) ∧ w.cell? ⟨g, 11, none⟩ = some (.int .i64 0) ∧ w.cell? ⟨g, 12, none⟩ = some (.slice (some A) 5 c)) ∧ w.cell? ⟨g', 0, none⟩ = some (.int .i64 x0) ∧ w.cell? ⟨g', 1, none⟩ = some (.int .i64 x1) :=
  ⟨tv_cells h, cell_of_row w g' 0 _ _ _ h', cell_of_row w g' 1 _ _ _ h'⟩
set_option maxHeartbeats 8000000 in
set_option maxRecDepth 100000 in
theorem edges_calls (w : World) (A : Addr) (c : Nat) (hC : Kd.C k142 w (some A) 5 tes) (hc : 5 ≤ c) :
    Calls Tryz.prog 85 #[.agg #[Value.int .i64 1, .int .i64 2, .int .i64 2, .int .i64 3, .int .i64 3, .int .i64 1, .int .i64 0, .int .i64 0, .int .i64 0, .int .i64 0, .int .i64 0, .int .i64 0, .slice (some A) 5 c]] w fun e w' => e = .returned (.bool true) ∧ Below w.heap.size w w' := by
  have HC := Aside0.mk hC
  have HX := Aside0.mk (heap_at (w := w) (o := .cells #[Value.int .i64 1, .int .i64 2, .int .i64 2, .int .i64 3, .int .i64 3, .int .i64 1, .int .i64 0, .int .i64 0, .int .i64 0, .int .i64 0, .int .i64 0, .int .i64 0, .slice (some A) 5 c] 99) (g := w.heap.size) rfl)
  have HB := Aside0.mk (below_alloc (Below.refl w.heap.size w) (.cells #[Value.int .i64 1, .int .i64 2, .int .i64 2, .int .i64 3, .int .i64 3, .int .i64 1, .int .i64 0, .int .i64 0, .int .i64 0, .int .i64 0, .int .i64 0, .int .i64 0, .slice (some A) 5 c] 99))
  have HC5 := Aside0.mk hc
  clear hC hc
  go_enter Tryz.func85, Tryz.ntmps85
  go_wp2_with fail
  go_loopw [8] (fun v8 wr => ∃ (i : Nat), v8 = .int .i64 i ∧ i ≤ 5 ∧ Aside0 (Below w.heap.size w wr) ∧ Aside0 (wr.heap[w.heap.size]? = some (.cells #[Value.int .i64 1, .int .i64 2, .int .i64 2, .int .i64 3, .int .i64 3, .int .i64 1, .int .i64 0, .int .i64 0, .int .i64 0, .int .i64 0, .int .i64 0, .int .i64 0, .slice (some A) 5 c] 99 (0, 0)))) (fun v8 _ => 5 - (intOf v8).toNat)
  case atStart => exact ⟨0, rfl, by omega, HB, HX⟩
  case round =>
    clear HB HX
    obtain ⟨i, rfl, hi, HB0, HX0⟩ := hrel
    by_cases hlt : i < 5
    · obtain ⟨x0, x1, hx, f0, f1, f2, f3, f4⟩ := edge_facts i hlt
      obtain ⟨c0, c1⟩ := atEdge (Kd.C_below HC.out HB0.out) i ⟨x0, x1⟩ hx
      have hw : IntKind.i64.wrap ((i : Int) + 1) = (i : Int) + 1 := IntWalk.i64_in _ ⟨by omega, by omega⟩
      have F0 := Aside0.mk f0
      have F1 := Aside0.mk f1
      have F3 := Aside0.mk f3
      have F4 := Aside0.mk f4
      have hsl := run_takeE A c i (by omega) HC5.out
      have t1 : True := trivial
      have t2 : True := trivial
      have t3 : True := trivial
      have t4 : True := trivial
      have HI := Aside0.mk hi
      have HB := Aside0.mk (below_alloc HB0.out (.cells #[.int .i64 x0, .int .i64 x1] 142))
      have HX := Aside0.mk (blk_alloc HX0.out (.cells #[.int .i64 x0, .int .i64 x1] 142))
      have HG := Aside0.mk (heap_at (w := wr) (o := .cells #[.int .i64 x0, .int .i64 x1] 142) (g := wr.heap.size) rfl)
      clear hx f0 f1 f3 f4 HX0 HB0
      go_wp2_with fail
      go_region_held3 (fun w' => (w'.cell? ⟨w.heap.size, 0, none⟩ = some (.int .i64 1) ∧ w'.cell? ⟨w.heap.size, 1, none⟩ = some (.int .i64 2) ∧ w'.cell? ⟨w.heap.size, 2, none⟩ = some (.int .i64 2) ∧ w'.cell? ⟨w.heap.size, 3, none⟩ = some (.int .i64 3) ∧ w'.cell? ⟨w.heap.size, 4, none⟩ = some (.int .i64 3) ∧ w'.cell? ⟨w.heap.size, 5, none⟩ = some (.int .i64 1) ∧ w'.cell? ⟨w.heap.size, 6, none⟩ = some (.int .i64 0) ∧ w'.cell? ⟨w.heap.size, 7, none⟩ = some (.int .i64 0) ∧ w'.cell? ⟨w.heap.size, 8, none⟩ = some (.int .i64 0) ∧ w'.cell? ⟨w.heap.size, 9, none⟩ = some (.int .i64 0) ∧ w'.cell? ⟨w.heap.size, 10, none⟩ = some (.int .i64 0) ∧ w'.cell? ⟨w.heap.size, 11, none⟩ = some (.int .i64 0) ∧ w'.cell? ⟨w.heap.size, 12, none⟩ = some (.slice (some A) 5 c)) ∧ w'.cell? ⟨wr.heap.size, 0, none⟩ = some (.int .i64 x0) ∧ w'.cell? ⟨wr.heap.size, 1, none⟩ = some (.int .i64 x1))
        (first | (focus (refine held_edge ?_ ?_ <;> (repeat (first | with_reducible refine blk_drew ?_ | exact HX.out | exact HG.out)); done)))
        (first
        | (go_at_call 86; have _t := t1; go_must (refine (there_calls _ A c x0).mono ?_; rw [F0.out]; rintro e w1 ⟨rfl, h⟩; have HB1 := Aside0.mk (below_step HB.out.drew h); have HX1 := Aside0.mk (blk_below (blk_drew HX.out) h); have HG1 := Aside0.mk (blk_below (blk_drew HG.out) h); clear t1 h HB HX HG ; have HB := HB1; have HX := HX1; have HG := HG1; clear HB1 HX1 HG1))
        | (go_at_call 86; have _t := t2; go_must (refine (there_calls _ A c x1).mono ?_; rw [F1.out]; rintro e w1 ⟨rfl, h⟩; have HB1 := Aside0.mk (below_step HB.out h); have HX1 := Aside0.mk (blk_below HX.out h); have HG1 := Aside0.mk (blk_below HG.out h); clear t2 h HB HX HG ; have HB := HB1; have HX := HX1; have HG := HG1; clear HB1 HX1 HG1))
        | (go_at_call 100; have _t := t3; go_must (refine (ContEdge_calls _ A c i x0 x1 HI.out (Kd.C_below HC.out HB.out) HC5.out F3.out).mono ?_; rintro e w1 ⟨rfl, h⟩; have HB1 := Aside0.mk (below_step HB.out h); have HX1 := Aside0.mk (blk_below HX.out h); have HG1 := Aside0.mk (blk_below HG.out h); clear t3 h HB HX HG ; have HB := HB1; have HX := HX1; have HG := HG1; clear HB1 HX1 HG1))
        | (go_at_call 100; have _t := t4; go_must (refine (ContEdge_calls _ A c i x1 x0 HI.out (Kd.C_below HC.out HB.out) HC5.out F4.out).mono ?_; rintro e w1 ⟨rfl, h⟩; have HB1 := Aside0.mk (below_step HB.out h); have HX1 := Aside0.mk (blk_below HX.out h); have HG1 := Aside0.mk (blk_below HG.out h); clear t4 h HB HX HG ; have HB := HB1; have HX := HX1; have HG := HG1; clear HB1 HX1 HG1)))
      all_goals (go_wp2_with fail)
      go_roundw
      case rel => exact ⟨i + 1, by go_num, by omega, HB, HX⟩
      case measure => simp [intOf]; omega
    · have he : i = 5 := by omega
      subst he
      go_wp2_with fail
      go_ret
      exact ⟨rfl, HB0.out⟩
end Go.Proofs.YtmapdfommjcebaaGreat.Own
namespace Go.Proofs.YtmapdfommjcebaaGreat.Own
open Go.RowKit Go.Proofs.YtmapdfommjcebaaGreatW.PrintWords Go.Proofs.YtmapdfommjcebaaGreatW.PrintLast Go.Proofs.YtmapdfommjcebaaGreatW.PrintMore
open PTopWiped
def tesV : List Value := [.int .i64 1, .int .i64 4, .int .i64 2, .int .i64 4, .int .i64 4, .int .i64 5, .int .i64 3, .int .i64 5, .int .i64 6, .int .i64 5]
theorem edge_cells {w : World} {A : Addr} (h : Kd.C k142 w (some A) 5 tes) : ∀ (j : Nat) (u : Value), tesV[j]? = some u → w.cell? (A.add j) = some u := by
  have hx : ∀ (i : Nat) (x : S142), tes[i]? = some x → w.cell? (A.add (i * 2)) = some (.int .i64 x.f0) ∧ w.cell? (A.add (i * 2 + 1)) = some (.int .i64 x.f1) := by
    intro i x hx
    obtain ⟨h1, h2⟩ := atEdge h i x hx
    refine ⟨h1, ?_⟩
    rw [← add_field _ _ 1 (by omega)] at h2
    exact h2
  have c0 := hx 0 ⟨1, 4⟩ rfl
  have c1 := hx 1 ⟨2, 4⟩ rfl
  have c2 := hx 2 ⟨4, 5⟩ rfl
  have c3 := hx 3 ⟨3, 5⟩ rfl
  have c4 := hx 4 ⟨6, 5⟩ rfl
  intro j u hj
  match j, hj with
  | 0, hj => obtain rfl := Option.some.inj hj; exact c0.1
  | 1, hj => obtain rfl := Option.some.inj hj; exact c0.2
  | 2, hj => obtain rfl := Option.some.inj hj; exact c1.1
  | 3, hj => obtain rfl := Option.some.inj hj; exact c1.2
  | 4, hj => obtain rfl := Option.some.inj hj; exact c2.1
  | 5, hj => obtain rfl := Option.some.inj hj; exact c2.2
  | 6, hj => obtain rfl := Option.some.inj hj; exact c3.1
  | 7, hj => obtain rfl := Option.some.inj hj; exact c3.2
  | 8, hj => obtain rfl := Option.some.inj hj; exact c4.1
  | 9, hj => obtain rfl := Option.some.inj hj; exact c4.2
  | n + 10, hj => simp [tesV] at hj
theorem C_edges {w : World} {g : Nat} (h : ∀ (j : Nat) (u : Value), tesV[j]? = some u → w.cell? ⟨g, j, none⟩ = some u) : Kd.C k142 w (some ⟨g, 0, none⟩) 5 tes := by
  refine ⟨rfl, by decide, fun _ => ⟨_, rfl, fun j x hj => ?_⟩⟩
  have key : ∀ (j : Nat) (x0 x1 : Int), tesV[j * 2]? = some (.int .i64 x0) → tesV[j * 2 + 1]? = some (.int .i64 x1) → ∃ cs : List Value, cs.length = k142.sz ∧ k142.K w ⟨x0, x1⟩ cs ∧ ∀ (i : Nat) (u : Value), cs[i]? = some u → w.cell? ((⟨g, 0, none⟩ : Addr).add (j * k142.sz + i)) = some u := by
    intro j x0 x1 h0 h1
    refine ⟨_, rfl, k142_mk w ⟨x0, x1⟩, fun i u hu => ?_⟩
    rw [add_plain]
    match i, hu with
    | 0, hu => obtain rfl := Option.some.inj hu; exact h _ _ h0
    | 1, hu => obtain rfl := Option.some.inj hu; exact h _ _ h1
    | n + 2, hu => simp at hu
  match j, hj with
  | 0, hj => obtain rfl := Option.some.inj hj; exact key 0 1 4 rfl rfl
  | 1, hj => obtain rfl := Option.some.inj hj; exact key 1 2 4 rfl rfl
  | 2, hj => obtain rfl := Option.some.inj hj; exact key 2 4 5 rfl rfl
  | 3, hj => obtain rfl := Option.some.inj hj; exact key 3 3 5 rfl rfl
  | 4, hj => obtain rfl := Option.some.inj hj; exact key 4 6 5 rfl rfl
  | n + 5, hj => simp [tes] at hj
theorem tesV_one : ∀ u ∈ tesV, u.oneCell' = true := by
  intro u hu
  simp only [tesV, List.mem_cons, List.not_mem_nil, or_false] at hu
  rcases hu with rfl | rfl | rfl | rfl | rfl | rfl | rfl | rfl | rfl | rfl <;> rfl
theorem own_edges {w : World} {base : Nat} {v : Value} (h : w.ownsRow base 142 2 v (0 + 5) ([] ++ tesV)) : ∃ g cap, v = .slice (some ⟨g, 0, none⟩) 5 cap ∧ 5 ≤ cap ∧ base ≤ g ∧ Kd.C k142 w (some ⟨g, 0, none⟩) 5 tes := by
  obtain ⟨_, ⟨_, h0⟩ | ⟨g, cap, cur, rfl, hbg, hg, hc, _, _, ht⟩⟩ := h
  · omega
  · refine ⟨g, cap, rfl, by omega, hbg, C_edges fun j u hu => ?_⟩
    rw [cell_of_row w g j _ _ _ hg]
    have hl := (List.getElem?_eq_some_iff.1 hu).1
    have : (cur.toList.take 10)[j]? = some u := by
      rw [show cur.toList.take 10 = tesV from ht]
      exact hu
    rw [List.getElem?_take_of_lt (by exact hl)] at this
    rw [← Array.getElem?_toList]
    exact this
theorem info142g : (Tryz.prog.info? 142).map (fun i => (i.size, i.bytes, i.zero.map (fun z => z.cells.size))) = some (2, 16, some 2) := by kernel_rfl
theorem info142f : ∃ i z, Tryz.prog.info? 142 = some i ∧ i.zero = some z ∧ i.size = 2 ∧ i.bytes = 16 ∧ z.cells.size = 2 := by
  obtain ⟨i, hi, hzz⟩ := Option.map_eq_some_iff.1 info142g
  simp only [Prod.mk.injEq] at hzz
  obtain ⟨z, hz, h2⟩ := Option.map_eq_some_iff.1 hzz.2.2
  exact ⟨i, z, hi, hz, hzz.1, hzz.2.1, h2⟩
set_option maxHeartbeats 8000000 in
set_option maxRecDepth 100000 in
theorem CloneE_at (w : World) (A : Addr) (c : Nat) (hC : Kd.C k142 w (some A) 5 tes) :
    Calls Tryz.prog 67 #[.slice (some A) 5 c] w fun e w' => ∃ g cap, e = .returned (.slice (some ⟨g, 0, none⟩) 5 cap) ∧ 5 ≤ cap ∧ w.heap.size ≤ g ∧ Kd.C k142 w' (some ⟨g, 0, none⟩) 5 tes ∧ Below w.heap.size w w' := by
  have HC := Aside0.mk hC
  clear hC
  have qT : ∀ (w : World) (a : Option Addr) (n c n' c' : Nat), (binOp .eql 97 (.slice a n c) (.slice none n' c')).run Tryz.prog w = .ok (.bool a.isNone) w := fun w a n c n' c' => Lib.run_eql_slice_nil w _ _ a n c n' c' Tryz.underlying97
  obtain ⟨i, z, hi, hz, hs, hby, hzs⟩ := info142f
  have HI := Aside0.mk (And.intro hi (And.intro hz (And.intro hs (And.intro hby hzs))))
  clear hi hz hs hby hzs
  go_enter Tryz.func67, Tryz.ntmps67
  go_wp2_with (at_builtin; go_must (refine wpList_append_own _ rfl (.tmp 5) (.tmp 6) 97 rfl w.heap.size 142 i z 2 16 Tryz.underlying97 HI.out.1 HI.out.2.1 HI.out.2.2.1 HI.out.2.2.2.1 HI.out.2.2.2.2 (by decide) (.slice (some ⟨w.heap.size, 0, none⟩) 0 0) 0 [] rfl ⟨rfl, .inr ⟨w.heap.size, 0, #[], rfl, Nat.le_refl _, heap_alloc_new _ _, Nat.le_refl _, by simp [maxLen], rfl, rfl⟩⟩ A 5 c tesV rfl rfl (edge_cells (Kd.C_below HC.out (below_alloc (Below.refl _ _) _))) tesV_one (by simp [maxLen]) (by decide) (by simp) ?_); go_must (intro v1 w1 h1 h2 _; obtain ⟨g, cap, rfl, hcap, hbg, hC1⟩ := own_edges h1; have HC1 := Aside0.mk hC1; have HBG := Aside0.mk hbg; clear hbg; have HB := Aside0.mk (pw_below_grown (below_alloc (Below.refl w.heap.size w) _) _ (by simp) h2 (fun k hk => by simp [Value.ownBlock] at hk; omega)); clear h1 h2 hC1))
  go_ret
  exact ⟨g, cap, rfl, hcap, HBG.out, HC1.out, HB.out⟩
theorem CloneE_calls (w : World) (A : Addr) (c : Nat) (hC : Kd.C k142 w (some A) 5 tes) :
    Calls Tryz.prog 67 #[.slice (some A) 5 c] w fun e w' => ∃ g cap, e = .returned (.slice (some ⟨g, 0, none⟩) 5 cap) ∧ 5 ≤ cap ∧ Kd.C k142 w' (some ⟨g, 0, none⟩) 5 tes ∧ Below w.heap.size w w' :=
  (CloneE_at w A c hC).mono fun _ _ ⟨g, cap, h1, h2, _, h4, h5⟩ => ⟨g, cap, h1, h2, h4, h5⟩
/-- The edges, when another block was written. -/
theorem edges_far {w : World} {g b i : Nat} {u : Value} (h : Kd.C k142 w (some ⟨g, 0, none⟩) 5 tes) (hne : g ≠ b) : Kd.C k142 (w.setCell ⟨b, i, none⟩ u) (some ⟨g, 0, none⟩) 5 tes := by
  refine C_edges fun j x hj => ?_
  rw [cell_far (show (⟨g, j, none⟩ : Addr).block ≠ (⟨b, i, none⟩ : Addr).block from hne)]
  have := edge_cells h j x hj
  rwa [add_plain] at this
end Go.Proofs.YtmapdfommjcebaaGreat.Own
namespace Go.Proofs.YtmapdfommjcebaaGreat.Own
open Go.RowKit Go.Proofs.YtmapdfommjcebaaGreatW.PrintWords Go.Proofs.YtmapdfommjcebaaGreatW.PrintLast Go.Proofs.YtmapdfommjcebaaGreatW.PrintMore
open PTopWiped
def addTo (xs : List Int) (n : Int) : List Int := if xs.contains n then xs else xs ++ [n]
def walkS : Nat → List Int
  | 0 => [4]
  | i + 1 => (nextTo ((walkS i).getD i 0) 12).foldl addTo (walkS i)
def walkN (i : Nat) : List Int := nextTo ((walkS i).getD i 0) 12
def walkJ (i j : Nat) : List Int := ((walkN i).take j).foldl addTo (walkS i)
theorem walkJ_zero (i : Nat) : walkJ i 0 = walkS i := rfl
theorem walkJ_all (i : Nat) : walkJ i (walkN i).length = walkS (i + 1) := by
  unfold walkJ
  rw [List.take_length]
  rfl
theorem walkJ_succ {i j : Nat} {n : Int} (h : (walkN i)[j]? = some n) : walkJ i (j + 1) = addTo (walkJ i j) n := by
  unfold walkJ
  rw [List.take_add_one, h, List.foldl_append]
  rfl
/-- What the walk asks of the table. -/
def walkOk (i : Nat) : Bool := decide (i < (walkS i).length) && decide ((walkS i).length ≤ 6) && decide (0 < (walkN i).length) && decide ((walkN i).length ≤ 12) &&
  (List.range (walkN i).length).all (fun j => ((walkN i).getD j 0 != 0) && decide ((walkJ i j).length ≤ 6) && decide (0 < (walkJ i j).length) && (slices_Contains_int_int.f 30 (walkJ i j) ((walkN i).getD j 0) == some ((walkJ i j).contains ((walkN i).getD j 0))))
theorem walk_ok : ∀ i, i < 6 → walkOk i = true
  | 0, _ => by kernel_rfl
  | 1, _ => by kernel_rfl
  | 2, _ => by kernel_rfl
  | 3, _ => by kernel_rfl
  | 4, _ => by kernel_rfl
  | 5, _ => by kernel_rfl
  | n + 6, h => absurd h (by omega)
theorem walk_end : walkS 6 = [4, 1, 2, 5, 3, 6] := by kernel_rfl
theorem walk_row {i : Nat} (h : i < 6) : i < (walkS i).length ∧ (walkS i).length ≤ 6 ∧ 0 < (walkN i).length ∧ (walkN i).length ≤ 12 := by
  have := walk_ok i h
  simp only [walkOk, Bool.and_eq_true, decide_eq_true_eq] at this
  exact ⟨this.1.1.1.1, this.1.1.1.2, this.1.1.2, this.1.2⟩
theorem walk_col {i j : Nat} {n : Int} (h : i < 6) (hj : (walkN i)[j]? = some n) : n ≠ 0 ∧ (walkJ i j).length ≤ 6 ∧ 0 < (walkJ i j).length ∧ slices_Contains_int_int.f 30 (walkJ i j) n = some ((walkJ i j).contains n) := by
  have := walk_ok i h
  simp only [walkOk, Bool.and_eq_true, decide_eq_true_eq] at this
  have h2 := this.2
  rw [List.all_eq_true] at h2
  have h3 := h2 j (List.mem_range.2 (List.getElem?_eq_some_iff.1 hj).1)
  rw [List.getD_eq_getElem?_getD, hj] at h3
  simp only [Option.getD_some, Bool.and_eq_true, decide_eq_true_eq, bne_iff_ne, ne_eq, beq_iff_eq] at h3
  exact ⟨h3.1.1.1, h3.1.1.2, h3.1.2, h3.2⟩
/-- The nodes that were come to: one that was handed in, or numbers of the call's own. -/
def SeenI (sg : Nat) (w : World) (base : Nat) (v : Value) (xs : List Int) : Prop := (v = .slice (some ⟨sg, 0, none⟩) 1 1 ∧ xs = [4]) ∨ OwnI w base v xs
theorem SeenI.below {sg : Nat} {w w1 : World} {base : Nat} {v : Value} {xs : List Int} (h : SeenI sg w base v xs) (hb : Below w.heap.size w w1) : SeenI sg w1 base v xs := h.imp id (fun h => h.below hb)
theorem SeenI.form {sg : Nat} {w : World} {base : Nat} {v : Value} {xs : List Int} (h : SeenI sg w base v xs) (h0 : 0 < xs.length) (hS : (Kd.int .i64).C w (some ⟨sg, 0, none⟩) [4].length [4]) :
    ∃ b cap, v = .slice (some ⟨b, 0, none⟩) xs.length cap ∧ xs.length ≤ cap ∧ b < w.heap.size ∧ (Kd.int .i64).C w (some ⟨b, 0, none⟩) xs.length xs := by
  rcases h with ⟨rfl, rfl⟩ | h
  · refine ⟨sg, 1, rfl, Nat.le_refl _, ?_, hS⟩
    obtain ⟨ad, e, h1⟩ := atInts hS 0 4 rfl
    injection e with e
    subst e
    exact World.block_lt_of_cell? w _ h1
  · obtain ⟨g, cap, e, hb, hlt⟩ := World.ownsRow.form h h0
    obtain ⟨A, c, e2, hc, hC⟩ := h.slice
    rw [e] at e2
    injection e2 with e2 _ e3
    subst e2 e3
    exact ⟨g, cap, e, hc, hlt, hC⟩
theorem cell_row {w : World} {b : Nat} {n : Nat} {xs : List Int} (h : (Kd.int .i64).C w (some ⟨b, 0, none⟩) n xs) (i : Nat) (x : Int) (hx : xs[i]? = some x) : w.cell? ⟨b, i, none⟩ = some (.int .i64 x) := by
  obtain ⟨ad, e, h1⟩ := atInts h i x hx
  injection e with e
  subst e
  rw [add_off, Nat.zero_add] at h1
  exact h1
theorem OwnI.block {w : World} {base : Nat} {v : Value} {xs : List Int} (h : OwnI w base v xs) (h0 : 0 < xs.length) : ∃ g cap cur, v = .slice (some ⟨g, 0, none⟩) xs.length cap ∧ base ≤ g ∧ w.heap[g]? = some (.cells cur 3 (0, 0)) ∧ ∀ (i : Nat) (x : Int), xs[i]? = some x → cur[i]? = some (.int .i64 x) := by
  obtain ⟨_, ⟨_, h1⟩ | ⟨g, cap, cur, rfl, hb, hg, hc, _, _, ht⟩⟩ := h
  · omega
  · refine ⟨g, cap, cur, rfl, hb, hg, fun i x hx => ?_⟩
    have hl := (List.getElem?_eq_some_iff.1 hx).1
    have h2 : (cur.toList.take (xs.length * 1))[i]? = some (.int .i64 x) := by
      rw [ht]
      simp [nums, hx]
    rw [List.getElem?_take_of_lt (by omega)] at h2
    rw [← Array.getElem?_toList]
    exact h2
section
variable {ops : Array Oper} {rest : List Oper} {o : Oper} {a : Act} {Q : Exit → Act → World → Prop}
set_option maxRecDepth 100000 in
theorem app_seen {sg : Nat} {w0 W : World} (hgd : o.guard = none) (s x : Operand) (ho : o.op = .call { callee := .builtin .append, args := #[s, x], argTypes := #[138, 138] })
    (v : Value) (xs : List Int) (n : Int) (ad : Addr) (c : Nat) (hs : a.eval s = v) (hx : a.eval x = .slice (some ad) 1 c)
    (HO : SeenI sg W w0.heap.size v xs) (hS : (Kd.int .i64).C W (some ⟨sg, 0, none⟩) [4].length [4]) (HR : (Kd.int .i64).C W (some ad) [n].length [n]) (HB : Below w0.heap.size w0 W) (hl : xs.length ≤ 1000)
    (h : ∀ v1 w1, SeenI sg w1 w0.heap.size v1 (xs ++ [n]) → Below w0.heap.size w0 w1 → (∃ row, W.grownBy w1 row ∧ (row = none ∨ row = v.ownBlock)) → (v1.ownBlock = v.ownBlock ∨ ∃ b, v1.ownBlock = some b ∧ W.heap.size ≤ b) → wpList Tryz.prog ops Q rest (a.put o.dst v1) w1) : wpList Tryz.prog ops Q (o :: rest) a W := by
  rcases HO with ⟨rfl, rfl⟩ | HO
  · obtain ⟨i0, hi, hzz⟩ := Option.map_eq_some_iff.1 info3
    simp only [Prod.mk.injEq] at hzz
    refine wpList_append_arg W hgd s x 138 ho 3 i0 (.int .i64 0) 1 8 Tryz.underlying138 hi hzz.1 hzz.2.1 hzz.2.2 rfl (by decide) sg 0 1 1 [.int .i64 4] hs rfl (fun j u hj => ?_) ad 1 c [.int .i64 n] hx rfl (fun j u hj => ?_) (fun u hu => ?_) (fun h => absurd h (by decide)) (by simp [maxLen]) (by decide) (fun h => absurd h (by decide)) (fun _ v1 w1 h1 h2 => ?_)
    · match j, hj with
      | 0, hj =>
        obtain rfl := Option.some.inj hj
        exact cell_row hS 0 4 rfl
    · match j, hj with
      | 0, hj =>
        obtain rfl := Option.some.inj hj
        obtain ⟨ad', e, h1⟩ := atInts HR 0 n rfl
        injection e with e
        subst e
        exact h1
    · obtain rfl := List.mem_singleton.1 hu
      rfl
    · have h3 : OwnI w1 W.heap.size v1 [4, n] := h1
      refine h v1 w1 (.inr (own_weaken h3 HB.size)) (pw_below_grown HB none HB.size h2 (fun k hk => by simp at hk)) ⟨none, h2, .inl rfl⟩ (.inr ?_)
      obtain ⟨g, cap, e, hb, _⟩ := World.ownsRow.form h3 (by simp)
      exact ⟨g, by rw [e]; rfl, hb⟩
  · exact print_append_row w0.heap.size hgd s x 138 3 .i64 8 ho Tryz.underlying138 info3 (by omega) v xs [n] (some ad) 1 c hs hx HO (reads_of_CI HR) HB HB.size (by omega) (fun v1 w1 ho hb hg hat => h v1 w1 (.inr ho) hb ⟨_, hg, .inr rfl⟩ hat)
end
end Go.Proofs.YtmapdfommjcebaaGreat.Own
namespace Go.Proofs.YtmapdfommjcebaaGreat.Own
open Go.RowKit Go.Proofs.YtmapdfommjcebaaGreatW.PrintWords Go.Proofs.YtmapdfommjcebaaGreatW.PrintLast Go.Proofs.YtmapdfommjcebaaGreatW.PrintMore
open PTopWiped
theorem own_keep {W W1 : World} {g : Nat} {v v1 : Value} {row : Option Nat} {o : Obj} (hg : W.heap[g]? = some o) (hG : W.grownBy W1 row) (hr : row = none ∨ row = v.ownBlock) (hn : some g ≠ v.ownBlock) (hat : v1.ownBlock = v.ownBlock ∨ ∃ b, v1.ownBlock = some b ∧ W.heap.size ≤ b) : W1.heap[g]? = some o ∧ some g ≠ v1.ownBlock := by
  refine ⟨blk_grown hg hG ?_, ?_⟩
  · rcases hr with rfl | rfl
    · simp
    · exact hn
  · rcases hat with e | ⟨b, e, hb⟩
    · rw [e]; exact hn
    · rw [e]
      intro e2
      have := blk_lt hg
      injection e2 with e2
      omega
theorem held_walk {w : World} {g b i : Nat} {A : Addr} {c : Nat} {x : Int} (h : w.heap[g]? = some (.cells #[Value.int .i64 1, .int .i64 2, .int .i64 2, .int .i64 3, .int .i64 3, .int .i64 1, .int .i64 0, .int .i64 0, .int .i64 0, .int .i64 0, .int .i64 0, .int .i64 0, .slice (some A) 5 c] 99 (0, 0))) (h' : w.cell? ⟨b, i, none⟩ = some (.int .i64 x)) :
    (w.cell? ⟨g, 0, none⟩ = some (.int .i64 1) ∧ w.cell? ⟨g, 1, none⟩ = some (.int .i64 2) ∧ w.cell? ⟨g, 2, none⟩ = some (.int .i64 2) ∧ w.cell? ⟨g, 3, none⟩ = some (.int .i64 3) ∧ w.cell? ⟨g, 4, none⟩ = some (.int .i64 3) ∧ w.cell? ⟨g, 5, none⟩ = some (.int .i64 1) ∧ w.cell? ⟨g, 6, none⟩ = some (.int .i64 0) ∧ w.cell? ⟨g, 7, none⟩ = some (.int .i64 0) ∧ w.cell? ⟨g, 8, none⟩ = some (.int .i64 0) ∧ w.cell? ⟨g, 9, none⟩ = some (.int .i64 0) ∧ w.cell? ⟨g, 10, none⟩ = some (.int .i64 0) ∧ w.cell? ⟨g, 11, none⟩ = some (.int .i64 0) ∧ w.cell? ⟨g, 12, none⟩ = some (.slice (some A) 5 c)) ∧ w.cell? ⟨b, i, none⟩ = some (.int .i64 x) :=
  ⟨tv_cells h, h'⟩
theorem seen_ne {sg g base : Nat} {w : World} {v : Value} {xs : List Int} (hb : base = g + 1) (hs : sg < g) (h : SeenI sg w base v xs) : some g ≠ v.ownBlock := by
  rcases h with ⟨rfl, _⟩ | h
  · intro e
    simp only [Value.ownBlock, Option.some.injEq] at e
    omega
  · exact h.off (by omega)
theorem Cont_n (w : World) (b n c : Nat) (xs : List Int) (y : Int) (r : Bool) (hn : n = xs.length) (hC : (Kd.int .i64).C w (some ⟨b, 0, none⟩) xs.length xs) (hc : n ≤ c) (h : slices_Contains_int_int.f 30 xs y = some r) :
    Calls Tryz.prog 102 #[.slice (some ⟨b, 0, none⟩) n c, .int .i64 y] w fun e w' => e = .returned (.bool r) ∧ Below w.heap.size w w' := by
  subst hn
  exact (slices_Contains_int_int.calls 30 _ c xs y r w hC hc h).mono fun _ _ h => ⟨h.1, h.2.below⟩
set_option maxHeartbeats 8000000 in
set_option maxRecDepth 100000 in
theorem walk_calls (w : World) (A : Addr) (c sg : Nat) (hC : Kd.C k142 w (some A) 5 tes) (hS : (Kd.int .i64).C w (some ⟨sg, 0, none⟩) [4].length [4]) :
    Calls Tryz.prog 88 #[.agg #[Value.int .i64 1, .int .i64 2, .int .i64 2, .int .i64 3, .int .i64 3, .int .i64 1, .int .i64 0, .int .i64 0, .int .i64 0, .int .i64 0, .int .i64 0, .int .i64 0, .slice (some A) 5 c], .slice (some ⟨sg, 0, none⟩) 1 1, .int .i64 0] w fun e w' => ∃ A' c', e = .returned (.slice A' 6 c') ∧ Below w.heap.size w w' := by
  obtain ⟨w0, hw0⟩ : ∃ w0, w0 = w.alloc (.cells #[Value.int .i64 1, .int .i64 2, .int .i64 2, .int .i64 3, .int .i64 3, .int .i64 1, .int .i64 0, .int .i64 0, .int .i64 0, .int .i64 0, .int .i64 0, .int .i64 0, .slice (some A) 5 c] 99) := ⟨_, rfl⟩
  have HW0 := Aside0.mk hw0
  have HC := Aside0.mk (Kd.C_below hC (below_alloc (Below.refl w.heap.size w) (.cells #[Value.int .i64 1, .int .i64 2, .int .i64 2, .int .i64 3, .int .i64 3, .int .i64 1, .int .i64 0, .int .i64 0, .int .i64 0, .int .i64 0, .int .i64 0, .int .i64 0, .slice (some A) 5 c] 99)))
  have HS := Aside0.mk (Kd.C_below hS (below_alloc (Below.refl w.heap.size w) (.cells #[Value.int .i64 1, .int .i64 2, .int .i64 2, .int .i64 3, .int .i64 3, .int .i64 1, .int .i64 0, .int .i64 0, .int .i64 0, .int .i64 0, .int .i64 0, .int .i64 0, .slice (some A) 5 c] 99)))
  have HX := Aside0.mk (heap_at (w := w) (o := .cells #[Value.int .i64 1, .int .i64 2, .int .i64 2, .int .i64 3, .int .i64 3, .int .i64 1, .int .i64 0, .int .i64 0, .int .i64 0, .int .i64 0, .int .i64 0, .int .i64 0, .slice (some A) 5 c] 99) (g := w.heap.size) rfl)
  rw [← hw0] at HC HS
  have HZ := Aside0.mk (show w0.heap.size = w.heap.size + 1 by rw [hw0]; simp)
  have HSG := Aside0.mk (show sg < w.heap.size from World.block_lt_of_cell? w _ (cell_row hS 0 4 rfl))
  clear hC hS hw0
  go_enter Tryz.func88, Tryz.ntmps88
  go_wp2_with fail
  go_loopw [1, 7] (fun v1 v7 wr => ∃ (i : Nat) (v : Value), v = v1 ∧ v7 = .int .i64 i ∧ i ≤ 6 ∧ Aside0 (SeenI sg wr w0.heap.size v (walkS i)) ∧ Aside0 (Below w0.heap.size w0 wr) ∧ Aside0 (wr.heap[w.heap.size]? = some (.cells #[Value.int .i64 1, .int .i64 2, .int .i64 2, .int .i64 3, .int .i64 3, .int .i64 1, .int .i64 0, .int .i64 0, .int .i64 0, .int .i64 0, .int .i64 0, .int .i64 0, .slice (some A) 5 c] 99 (0, 0)))) (fun _ v7 _ => 6 - (intOf v7).toNat)
  case atStart => exact ⟨0, _, rfl, rfl, by omega, ⟨.inl ⟨rfl, rfl⟩⟩, ⟨by rw [← HW0.out]; exact Below.refl _ _⟩, HX⟩
  case round =>
    clear HX
    obtain ⟨i, v, rfl, rfl, hi, HO, HB, HX⟩ := hrel
    by_cases hlt : i < 6
    · obtain ⟨r1, r2, r3, r4⟩ := walk_row hlt
      obtain ⟨b, cap, rfl, hcap, hbl, hCb⟩ := SeenI.form HO.out (by omega) (Kd.C_below HS.out HB.out)
      obtain ⟨x, hx⟩ : ∃ x, (walkS i)[i]? = some x := ⟨_, List.getElem?_eq_getElem r1⟩
      have hN : walkN i = nextTo x 12 := by unfold walkN; rw [List.getD_eq_getElem?_getD, hx]; rfl
      have c0 := cell_row hCb i x hx
      have HCN := Aside0.mk hN
      obtain ⟨n, hn⟩ : ∃ n, n = (walkS i).length := ⟨_, rfl⟩
      have HNn := Aside0.mk hn
      rw [← hn] at r1 r2 hcap HO ⊢
      obtain ⟨L, hL⟩ : ∃ L, L = (walkN i).length := ⟨_, rfl⟩
      have HL := Aside0.mk hL
      rw [← hL] at r3 r4
      have q1 : (i : Int) < (n : Int) := by omega
      have q2 : 0 ≤ (i : Int) ∧ (i : Int) < (n : Int) := by omega
      have HBL := Aside0.mk hbl
      clear hx hCb hN hn hL hbl
      obtain ⟨m0, m1, m2, m3, m4, m5, m6, m7, m8, m9, m10, m11, m12⟩ := tv_cells HX.out
      go_wp2_with fail
      have HCc := Aside0.mk c0
      clear c0 m0 m1 m2 m3 m4 m5 m6 m7 m8 m9 m10 m11 m12
      go_region_held3 (fun w' => (w'.cell? ⟨w.heap.size, 0, none⟩ = some (.int .i64 1) ∧ w'.cell? ⟨w.heap.size, 1, none⟩ = some (.int .i64 2) ∧ w'.cell? ⟨w.heap.size, 2, none⟩ = some (.int .i64 2) ∧ w'.cell? ⟨w.heap.size, 3, none⟩ = some (.int .i64 3) ∧ w'.cell? ⟨w.heap.size, 4, none⟩ = some (.int .i64 3) ∧ w'.cell? ⟨w.heap.size, 5, none⟩ = some (.int .i64 1) ∧ w'.cell? ⟨w.heap.size, 6, none⟩ = some (.int .i64 0) ∧ w'.cell? ⟨w.heap.size, 7, none⟩ = some (.int .i64 0) ∧ w'.cell? ⟨w.heap.size, 8, none⟩ = some (.int .i64 0) ∧ w'.cell? ⟨w.heap.size, 9, none⟩ = some (.int .i64 0) ∧ w'.cell? ⟨w.heap.size, 10, none⟩ = some (.int .i64 0) ∧ w'.cell? ⟨w.heap.size, 11, none⟩ = some (.int .i64 0) ∧ w'.cell? ⟨w.heap.size, 12, none⟩ = some (.slice (some A) 5 c)) ∧ w'.cell? ⟨b, i, none⟩ = some (.int .i64 x))
        (first | (focus (refine held_walk ?_ ?_ <;> (repeat (first | with_reducible refine blk_drew ?_ | exact HX.out | exact HCc.out)); done)))
        (first | (go_at_call 101; go_must (refine (Next_calls _ A c x (Kd.C_below HC.out HB.out.drew)).mono ?_; rw [← HCN.out]; rintro e w1 ⟨vN, rfl, h1, h2⟩; obtain ⟨g, capN, cur, rfl, hg1, hg2, hg3⟩ := OwnI.block h1 (by rw [← HL.out]; exact r3); rw [← HL.out]; have HB1 := Aside0.mk (below_step HB.out.drew h2); have HX1 := Aside0.mk (blk_below (blk_drew HX.out) h2); have HCc1 := Aside0.mk (pw_cell_below h2 HCc.out); have HO1 := Aside0.mk (SeenI.below HO.out (below_step (Below.refl _ _).drew h2)); have HG := Aside0.mk hg2; have HG3 := Aside0.mk hg3; have HGN := Aside0.mk hg1; clear h1 h2 hg1 hg2 hg3 HB HX HO HCc; have HX := HX1; have HCc := HCc1; clear HX1 HCc1)))
      go_wp2_with fail
      have HNE := Aside0.mk (show some g ≠ (Value.slice (some ⟨b, 0, none⟩) n cap).ownBlock by
        intro e
        simp only [Value.ownBlock, Option.some.injEq] at e
        have h1 := HGN.out
        have h2 := HBL.out
        have h3 : wr.drew.heap.size = wr.heap.size := rfl
        omega)
      clear HGN HBL
      go_loopw [1, 23] (fun v1 v23 wr2 => ∃ (j : Nat) (v : Value), v = v1 ∧ v23 = .int .i64 j ∧ j ≤ L ∧ Aside0 (SeenI sg wr2 w0.heap.size v (walkJ i j)) ∧ Aside0 (some g ≠ v.ownBlock) ∧ Aside0 (Below w0.heap.size w0 wr2) ∧ Aside0 (wr2.heap[w.heap.size]? = some (.cells #[Value.int .i64 1, .int .i64 2, .int .i64 2, .int .i64 3, .int .i64 3, .int .i64 1, .int .i64 0, .int .i64 0, .int .i64 0, .int .i64 0, .int .i64 0, .int .i64 0, .slice (some A) 5 c] 99 (0, 0))) ∧ Aside0 (wr2.heap[g]? = some (.cells cur 3 (0, 0)))) (fun _ v23 _ => L - (intOf v23).toNat)
      case atStart => exact ⟨0, _, rfl, rfl, by omega, HO1, HNE, HB1, HX, HG⟩
      case round =>
        clear HO1 HNE HB1 HX HG HCc
        obtain ⟨j, v, rfl, rfl, hj, HO, HNE, HB, HX, HG⟩ := hrel
        by_cases hjl : j < L
        · obtain ⟨y, hy⟩ : ∃ y, (walkN i)[j]? = some y := ⟨_, List.getElem?_eq_getElem (by rw [← HL.out]; exact hjl)⟩
          obtain ⟨y0, y1, y2, y3⟩ := walk_col hlt hy
          obtain ⟨b2, cap2, rfl, hcap2, _, hCb⟩ := SeenI.form HO.out y2 (Kd.C_below HS.out HB.out)
          have c1 := (cell_of_row _ g j _ _ _ HG.out).trans (HG3.out j y hy)
          have HJ := Aside0.mk (walkJ_succ hy)
          have q5 : (y != 0) = true := by simpa using y0
          have hw : IntKind.i64.wrap ((j : Int) + 1) = (j : Int) + 1 := IntWalk.i64_in _ ⟨by omega, by omega⟩
          have HCb := Aside0.mk hCb
          have HY3 := Aside0.mk y3
          have HY1 := Aside0.mk y1
          obtain ⟨n2, hn2⟩ : ∃ n2, n2 = (walkJ i j).length := ⟨_, rfl⟩
          rw [← hn2] at hcap2 HO HNE ⊢
          have HN2 := Aside0.mk hn2
          have HNT := Aside0.mk (show some w.heap.size ≠ (Value.slice (some ⟨b2, 0, none⟩) n2 cap2).ownBlock from seen_ne HZ.out HSG.out HO.out)
          clear hy y0 y1 y2 y3 hCb hn2
          cases hq : (walkJ i j).contains y with
          | true =>
            have HQ := Aside0.mk (show walkJ i (j + 1) = walkJ i j by rw [HJ.out]; unfold addTo; rw [hq]; rfl)
            rw [hq] at HY3
            clear hq
            go_wp2_with (go_at_call 102; go_must (refine (Cont_n _ b2 n2 cap2 (walkJ i j) y true HN2.out HCb.out hcap2 HY3.out).mono ?_; rintro e w3 ⟨rfl, h⟩; have HB2 := Aside0.mk (below_step HB.out h); have HX2 := Aside0.mk (blk_below HX.out h); have HG2 := Aside0.mk (blk_below HG.out h); have HO2 := Aside0.mk (SeenI.below HO.out h); clear h c1))
            go_roundw
            case rel => exact ⟨j + 1, _, rfl, by go_num, by omega, ⟨by rw [HQ.out]; exact HO2.out⟩, HNE, HB2, HX2, HG2⟩
            case measure => simp [intOf]; omega
          | false =>
            have HQ := Aside0.mk (show walkJ i (j + 1) = walkJ i j ++ [y] by rw [HJ.out]; unfold addTo; rw [hq]; rfl)
            rw [hq] at HY3
            clear hq
            go_wp2_with (first
              | (go_at_call 102; go_must (refine (Cont_n _ b2 n2 cap2 (walkJ i j) y false HN2.out HCb.out hcap2 HY3.out).mono ?_; rintro e w3 ⟨rfl, h⟩; have HB2 := Aside0.mk (below_step HB.out h); have HX2 := Aside0.mk (blk_below HX.out h); have HG2 := Aside0.mk (blk_below HG.out h); have HO2 := Aside0.mk (SeenI.below HO.out h); clear h c1))
              | (at_builtin; go_must (refine app_seen (sg := sg) (w0 := w0) rfl (.tmp 36) (.tmp 38) rfl _ (walkJ i j) y _ _ rfl rfl (SeenI.below HO2.out (below_alloc (Below.refl _ _) _)) (Kd.C_below HS.out (below_alloc HB2.out _)) (C_oneI _ _) (below_alloc HB2.out _) (by have := HY1.out; omega) ?_); go_must (intro v4 w4 h1 h2 h3 h4; obtain ⟨row, h5, h6⟩ := h3; obtain ⟨h7, h8⟩ := own_keep (blk_alloc HG2.out _) h5 h6 HNE.out h4; have hn0 : some w.heap.size ≠ (Value.slice (some ⟨b2, 0, none⟩) n2 cap2).ownBlock := HNT.out; obtain ⟨h9, _⟩ := own_keep (blk_alloc HX2.out _) h5 h6 hn0 h4; rw [← HQ.out] at h1; have HO4 := Aside0.mk h1; have HB4 := Aside0.mk h2; have HG4 := Aside0.mk h7; have HNE4 := Aside0.mk h8; have HX4 := Aside0.mk h9; clear h1 h2 h4 h5 h6 h7 h8 h9 hn0)))
            go_roundw
            case rel => exact ⟨j + 1, _, rfl, by go_num, by omega, HO4, HNE4, HB4, HX4, HG4⟩
            case measure => simp [intOf]; omega
        · have hje : j = L := by omega
          have HQ := Aside0.mk (show walkJ i j = walkS (i + 1) by rw [hje, HL.out]; exact walkJ_all i)
          have hw : IntKind.i64.wrap ((i : Int) + 1) = (i : Int) + 1 := IntWalk.i64_in _ ⟨by omega, by omega⟩
          subst hje
          go_wp2_with fail
          go_roundw
          case rel => exact ⟨i + 1, _, rfl, by go_num, by omega, ⟨by rw [← HQ.out]; exact HO.out⟩, HB, HX⟩
          case measure => simp [intOf]; omega
    · have he : i = 6 := by omega
      subst he
      have h6 : OwnI wr w0.heap.size v [4, 1, 2, 5, 3, 6] := by
        have h := HO.out
        rw [walk_end] at h
        rcases h with ⟨_, h⟩ | h
        · simp at h
        · exact h
      obtain ⟨A6, c6, e6, _, _⟩ := h6.slice
      have e7 : v = .slice A6 6 c6 := e6
      subst e7
      have H6 := Aside0.mk h6
      clear h6 HO e6
      go_wp2_with (go_at_call 103; go_must (refine (Sort_six w0 _ A6 c6 HB.out H6.out).mono ?_; rintro e w1 ⟨rfl, h1, h2⟩; have HB2 := Aside0.mk h2; clear h1 h2))
      go_ret
      exact ⟨A6, c6, rfl, below_step (below_alloc (Below.refl w.heap.size w) _) (by rw [← HW0.out]; exact HB2.out)⟩
end Go.Proofs.YtmapdfommjcebaaGreat.Own
namespace Go.Proofs.YtmapdfommjcebaaGreat.Own
open Go.RowKit Go.Proofs.YtmapdfommjcebaaGreatW.PrintWords Go.Proofs.YtmapdfommjcebaaGreatW.PrintLast Go.Proofs.YtmapdfommjcebaaGreatW.PrintMore
open PTopWiped
theorem right_facts : ∀ i : Nat, i < 12 → (i < 6 ∧ (∃ m, nextTo ((i : Int) + 1) 12 = [m] ∧ tKind m = 3) ∧ decide (1 ≤ tKind ((i : Int) + 1)) = true ∧ (tKind ((i : Int) + 1) = 1 ∨ tKind ((i : Int) + 1) = 2)) ∨ (i < 6 ∧ decide (1 ≤ tKind ((i : Int) + 1)) = true ∧ tKind ((i : Int) + 1) = 3) ∨ (6 ≤ i ∧ decide (1 ≤ tKind ((i : Int) + 1)) = false ∧ tKind ((i : Int) + 1) = 0)
  | 0, _ => .inl ⟨by omega, ⟨4, by kernel_rfl, by kernel_rfl⟩, by kernel_rfl, .inl (by kernel_rfl)⟩
  | 1, _ => .inl ⟨by omega, ⟨4, by kernel_rfl, by kernel_rfl⟩, by kernel_rfl, .inr (by kernel_rfl)⟩
  | 2, _ => .inl ⟨by omega, ⟨5, by kernel_rfl, by kernel_rfl⟩, by kernel_rfl, .inr (by kernel_rfl)⟩
  | 3, _ => .inr (.inl ⟨by omega, by kernel_rfl, by kernel_rfl⟩)
  | 4, _ => .inr (.inl ⟨by omega, by kernel_rfl, by kernel_rfl⟩)
  | 5, _ => .inl ⟨by omega, ⟨5, by kernel_rfl, by kernel_rfl⟩, by kernel_rfl, .inl (by kernel_rfl)⟩
  | 6, _ => .inr (.inr ⟨by omega, by kernel_rfl, by kernel_rfl⟩)
  | 7, _ => .inr (.inr ⟨by omega, by kernel_rfl, by kernel_rfl⟩)
  | 8, _ => .inr (.inr ⟨by omega, by kernel_rfl, by kernel_rfl⟩)
  | 9, _ => .inr (.inr ⟨by omega, by kernel_rfl, by kernel_rfl⟩)
  | 10, _ => .inr (.inr ⟨by omega, by kernel_rfl, by kernel_rfl⟩)
  | 11, _ => .inr (.inr ⟨by omega, by kernel_rfl, by kernel_rfl⟩)
  | n + 12, h => absurd h (by omega)
theorem nodes_three : nodesTo 3 12 = [4, 5] := by kernel_rfl
theorem held_tree {w : World} {g : Nat} {A : Addr} {c : Nat} (h : w.heap[g]? = some (.cells #[Value.int .i64 1, .int .i64 2, .int .i64 2, .int .i64 3, .int .i64 3, .int .i64 1, .int .i64 0, .int .i64 0, .int .i64 0, .int .i64 0, .int .i64 0, .int .i64 0, .slice (some A) 5 c] 99 (0, 0))) :
    w.cell? ⟨g, 0, none⟩ = some (.int .i64 1) ∧ w.cell? ⟨g, 1, none⟩ = some (.int .i64 2) ∧ w.cell? ⟨g, 2, none⟩ = some (.int .i64 2) ∧ w.cell? ⟨g, 3, none⟩ = some (.int .i64 3) ∧ w.cell? ⟨g, 4, none⟩ = some (.int .i64 3) ∧ w.cell? ⟨g, 5, none⟩ = some (.int .i64 1) ∧ w.cell? ⟨g, 6, none⟩ = some (.int .i64 0) ∧ w.cell? ⟨g, 7, none⟩ = some (.int .i64 0) ∧ w.cell? ⟨g, 8, none⟩ = some (.int .i64 0) ∧ w.cell? ⟨g, 9, none⟩ = some (.int .i64 0) ∧ w.cell? ⟨g, 10, none⟩ = some (.int .i64 0) ∧ w.cell? ⟨g, 11, none⟩ = some (.int .i64 0) ∧ w.cell? ⟨g, 12, none⟩ = some (.slice (some A) 5 c) :=
  tv_cells h
theorem slice3 (A : Option Addr) (n c : Nat) (hc : 1 ≤ c) :
    ∀ W : World, (Instr.slice 138 (.slice A n c) none (some (.int .i64 1)) (some (.int .i64 1))).run Tryz.prog W = .ok (.slice A 1 1) W := by
  intro W
  obtain ⟨i0, hi, _⟩ := Option.map_eq_some_iff.1 info3
  have hel : Tryz.prog.elem 138 = 3 := by simp [Program.elem, Tryz.underlying138]
  have hu : Tryz.prog.underlying 138 = some (.slice (Tryz.prog.elem 138)) := by rw [hel]; exact Tryz.underlying138
  have ha : (A.map fun x => x.add 0) = A := by cases A <;> simp [Addr.add]
  rw [run_slice_hm W 138 A n c hu .i64 .i64 1 1 (by omega) (by omega) (by omega), hel]
  simp [sizeOf, typeInfo, hi, sliced, Result.andThen, ha]
theorem C_takeI {w : World} {g n : Nat} (h : (Kd.int .i64).C w (some ⟨g, 0, none⟩) n [4, 5]) : (Kd.int .i64).C w (some ⟨g, 0, none⟩) [4].length [4] := by
  refine ⟨rfl, by decide, fun _ => ?_⟩
  obtain ⟨ad, e, h2⟩ := h.2.2 (by rw [← h.1]; simp)
  refine ⟨ad, e, fun j x hj => h2 j x ?_⟩
  match j, hj with
  | 0, hj => exact hj
set_option maxHeartbeats 8000000 in
set_option maxRecDepth 100000 in
theorem Right_tree (w : World) (A : Addr) (c : Nat) (hC : Kd.C k142 w (some A) 5 tes) (hc : 5 ≤ c) :
    Calls Tryz.prog 65 #[.agg #[Value.int .i64 1, .int .i64 2, .int .i64 2, .int .i64 3, .int .i64 3, .int .i64 1, .int .i64 0, .int .i64 0, .int .i64 0, .int .i64 0, .int .i64 0, .int .i64 0, .slice (some A) 5 c]] w fun e w' => e = .returned (.bool true) ∧ Below w.heap.size w w' := by
  have HC := Aside0.mk hC
  have HC5 := Aside0.mk hc
  have HX := Aside0.mk (heap_at (w := w) (o := .cells #[Value.int .i64 1, .int .i64 2, .int .i64 2, .int .i64 3, .int .i64 3, .int .i64 1, .int .i64 0, .int .i64 0, .int .i64 0, .int .i64 0, .int .i64 0, .int .i64 0, .slice (some A) 5 c] 99) (g := w.heap.size) rfl)
  have HB := Aside0.mk (below_alloc (Below.refl w.heap.size w) (.cells #[Value.int .i64 1, .int .i64 2, .int .i64 2, .int .i64 3, .int .i64 3, .int .i64 1, .int .i64 0, .int .i64 0, .int .i64 0, .int .i64 0, .int .i64 0, .int .i64 0, .slice (some A) 5 c] 99))
  clear hC hc
  obtain ⟨m0, m1, m2, m3, m4, m5, m6, m7, m8, m9, m10, m11, m12⟩ := tv_cells HX.out
  go_enter Tryz.func65, Tryz.ntmps65
  go_wp2_with (first
    | (go_at_call 84; go_must (refine (kinds_calls _ A c).mono ?_; rintro e w1 ⟨rfl, h⟩; have HB1 := Aside0.mk (below_step HB.out h); have HX1 := Aside0.mk (blk_below HX.out h); clear h HB HX m0 m1 m2 m3 m4 m5 m6 m7 m8 m9 m10 m11 m12; have HB := HB1; have HX := HX1; clear HB1 HX1; obtain ⟨m0, m1, m2, m3, m4, m5, m6, m7, m8, m9, m10, m11, m12⟩ := tv_cells HX.out))
    | (go_at_call 85; go_must (refine (edges_calls _ A c (Kd.C_below HC.out HB.out) HC5.out).mono ?_; rintro e w1 ⟨rfl, h⟩; have HB1 := Aside0.mk (below_step HB.out h); have HX1 := Aside0.mk (blk_below HX.out h); clear h HB HX m0 m1 m2 m3 m4 m5 m6 m7 m8 m9 m10 m11 m12; have HB := HB1; have HX := HX1; clear HB1 HX1; obtain ⟨m0, m1, m2, m3, m4, m5, m6, m7, m8, m9, m10, m11, m12⟩ := tv_cells HX.out)))
  go_loopw [3, 16] (fun v3 v16 wr => ∃ (i al : Nat), v16 = .int .i64 i ∧ v3 = .int .i64 al ∧ i ≤ 12 ∧ Aside0 (al = min i 6) ∧ Aside0 (Below w.heap.size w wr) ∧ Aside0 (wr.heap[w.heap.size]? = some (.cells #[Value.int .i64 1, .int .i64 2, .int .i64 2, .int .i64 3, .int .i64 3, .int .i64 1, .int .i64 0, .int .i64 0, .int .i64 0, .int .i64 0, .int .i64 0, .int .i64 0, .slice (some A) 5 c] 99 (0, 0)))) (fun _ v16 _ => 12 - (intOf v16).toNat)
  case atStart => exact ⟨0, 0, rfl, rfl, by omega, ⟨rfl⟩, HB, HX⟩
  case round =>
    clear HB HX m0 m1 m2 m3 m4 m5 m6 m7 m8 m9 m10 m11 m12
    obtain ⟨i, al, rfl, rfl, hi, HA, HB, HX⟩ := hrel
    obtain ⟨m0, m1, m2, m3, m4, m5, m6, m7, m8, m9, m10, m11, m12⟩ := tv_cells HX.out
    by_cases hlt : i < 12
    · have hw : IntKind.i64.wrap ((i : Int) + 1) = (i : Int) + 1 := IntWalk.i64_in _ ⟨by omega, by omega⟩
      have hal : al ≤ 6 := by have := HA.out; omega
      have hw2 : IntKind.i64.wrap ((al : Int) + 1) = (al : Int) + 1 := IntWalk.i64_in _ ⟨by omega, by omega⟩
      rcases right_facts i hlt with ⟨h6, ⟨m, hn, hm⟩, ht, hk | hk⟩ | ⟨h6, ht, hk⟩ | ⟨h6, ht, hk⟩
      · have N := Aside0.mk hn
        have M := Aside0.mk hm
        have T := Aside0.mk ht
        have K := Aside0.mk hk
        clear hn hm ht hk
        go_wp2_with (first
          | (go_at_call 86; go_must (refine (there_calls _ A c ((i : Int) + 1)).mono ?_; rw [T.out]; rintro e w1 ⟨rfl, h⟩; have HB1 := Aside0.mk (below_step HB.out h); have HX1 := Aside0.mk (blk_below HX.out h); clear h HB HX m0 m1 m2 m3 m4 m5 m6 m7 m8 m9 m10 m11 m12; have HB := HB1; have HX := HX1; clear HB1 HX1; obtain ⟨m0, m1, m2, m3, m4, m5, m6, m7, m8, m9, m10, m11, m12⟩ := tv_cells HX.out))
          | (go_at_call 69; go_must (refine (Kind_calls _ A c ((i : Int) + 1)).mono ?_; rw [K.out]; rintro e w2 ⟨rfl, h⟩; have HB1 := Aside0.mk (below_step HB.out h); have HX1 := Aside0.mk (blk_below HX.out h); clear h HB HX m0 m1 m2 m3 m4 m5 m6 m7 m8 m9 m10 m11 m12; have HB := HB1; have HX := HX1; clear HB1 HX1; obtain ⟨m0, m1, m2, m3, m4, m5, m6, m7, m8, m9, m10, m11, m12⟩ := tv_cells HX.out))
          | (go_at_call 87; go_must (refine (leaf_calls _ A c ((i : Int) + 1) m (Kd.C_below HC.out HB.out) N.out M.out).mono ?_; rintro e w3 ⟨rfl, h⟩; have HB1 := Aside0.mk (below_step HB.out h); have HX1 := Aside0.mk (blk_below HX.out h); clear h HB HX m0 m1 m2 m3 m4 m5 m6 m7 m8 m9 m10 m11 m12; have HB := HB1; have HX := HX1; clear HB1 HX1; obtain ⟨m0, m1, m2, m3, m4, m5, m6, m7, m8, m9, m10, m11, m12⟩ := tv_cells HX.out)))
        go_roundw
        case rel => exact ⟨i + 1, al + 1, by go_num, by go_num, by omega, ⟨by have := HA.out; omega⟩, HB, HX⟩
        case measure => simp [intOf]; omega
      · have N := Aside0.mk hn
        have M := Aside0.mk hm
        have T := Aside0.mk ht
        have K := Aside0.mk hk
        clear hn hm ht hk
        go_wp2_with (first
          | (go_at_call 86; go_must (refine (there_calls _ A c ((i : Int) + 1)).mono ?_; rw [T.out]; rintro e w1 ⟨rfl, h⟩; have HB1 := Aside0.mk (below_step HB.out h); have HX1 := Aside0.mk (blk_below HX.out h); clear h HB HX m0 m1 m2 m3 m4 m5 m6 m7 m8 m9 m10 m11 m12; have HB := HB1; have HX := HX1; clear HB1 HX1; obtain ⟨m0, m1, m2, m3, m4, m5, m6, m7, m8, m9, m10, m11, m12⟩ := tv_cells HX.out))
          | (go_at_call 69; go_must (refine (Kind_calls _ A c ((i : Int) + 1)).mono ?_; rw [K.out]; rintro e w2 ⟨rfl, h⟩; have HB1 := Aside0.mk (below_step HB.out h); have HX1 := Aside0.mk (blk_below HX.out h); clear h HB HX m0 m1 m2 m3 m4 m5 m6 m7 m8 m9 m10 m11 m12; have HB := HB1; have HX := HX1; clear HB1 HX1; obtain ⟨m0, m1, m2, m3, m4, m5, m6, m7, m8, m9, m10, m11, m12⟩ := tv_cells HX.out))
          | (go_at_call 87; go_must (refine (leaf_calls _ A c ((i : Int) + 1) m (Kd.C_below HC.out HB.out) N.out M.out).mono ?_; rintro e w3 ⟨rfl, h⟩; have HB1 := Aside0.mk (below_step HB.out h); have HX1 := Aside0.mk (blk_below HX.out h); clear h HB HX m0 m1 m2 m3 m4 m5 m6 m7 m8 m9 m10 m11 m12; have HB := HB1; have HX := HX1; clear HB1 HX1; obtain ⟨m0, m1, m2, m3, m4, m5, m6, m7, m8, m9, m10, m11, m12⟩ := tv_cells HX.out)))
        go_roundw
        case rel => exact ⟨i + 1, al + 1, by go_num, by go_num, by omega, ⟨by have := HA.out; omega⟩, HB, HX⟩
        case measure => simp [intOf]; omega
      · have T := Aside0.mk ht
        have K := Aside0.mk hk
        clear ht hk
        go_wp2_with (first
          | (go_at_call 86; go_must (refine (there_calls _ A c ((i : Int) + 1)).mono ?_; rw [T.out]; rintro e w1 ⟨rfl, h⟩; have HB1 := Aside0.mk (below_step HB.out h); have HX1 := Aside0.mk (blk_below HX.out h); clear h HB HX m0 m1 m2 m3 m4 m5 m6 m7 m8 m9 m10 m11 m12; have HB := HB1; have HX := HX1; clear HB1 HX1; obtain ⟨m0, m1, m2, m3, m4, m5, m6, m7, m8, m9, m10, m11, m12⟩ := tv_cells HX.out))
          | (go_at_call 69; go_must (refine (Kind_calls _ A c ((i : Int) + 1)).mono ?_; rw [K.out]; rintro e w2 ⟨rfl, h⟩; have HB1 := Aside0.mk (below_step HB.out h); have HX1 := Aside0.mk (blk_below HX.out h); clear h HB HX m0 m1 m2 m3 m4 m5 m6 m7 m8 m9 m10 m11 m12; have HB := HB1; have HX := HX1; clear HB1 HX1; obtain ⟨m0, m1, m2, m3, m4, m5, m6, m7, m8, m9, m10, m11, m12⟩ := tv_cells HX.out)))
        go_roundw
        case rel => exact ⟨i + 1, al + 1, by go_num, by go_num, by omega, ⟨by have := HA.out; omega⟩, HB, HX⟩
        case measure => simp [intOf]; omega
      · have T := Aside0.mk ht
        have K := Aside0.mk hk
        clear ht hk
        go_wp2_with (first
          | (go_at_call 86; go_must (refine (there_calls _ A c ((i : Int) + 1)).mono ?_; rw [T.out]; rintro e w1 ⟨rfl, h⟩; have HB1 := Aside0.mk (below_step HB.out h); have HX1 := Aside0.mk (blk_below HX.out h); clear h HB HX m0 m1 m2 m3 m4 m5 m6 m7 m8 m9 m10 m11 m12; have HB := HB1; have HX := HX1; clear HB1 HX1; obtain ⟨m0, m1, m2, m3, m4, m5, m6, m7, m8, m9, m10, m11, m12⟩ := tv_cells HX.out))
          | (go_at_call 69; go_must (refine (Kind_calls _ A c ((i : Int) + 1)).mono ?_; rw [K.out]; rintro e w2 ⟨rfl, h⟩; have HB1 := Aside0.mk (below_step HB.out h); have HX1 := Aside0.mk (blk_below HX.out h); clear h HB HX m0 m1 m2 m3 m4 m5 m6 m7 m8 m9 m10 m11 m12; have HB := HB1; have HX := HX1; clear HB1 HX1; obtain ⟨m0, m1, m2, m3, m4, m5, m6, m7, m8, m9, m10, m11, m12⟩ := tv_cells HX.out)))
        go_roundw
        case rel => exact ⟨i + 1, al + 0, by go_num, by go_num, by omega, ⟨by have := HA.out; omega⟩, HB, HX⟩
        case measure => simp [intOf]; omega
    · have he : i = 12 := by omega
      subst he
      have ha6 : al = 6 := by have := HA.out; omega
      have u5 : IntKind.i64.wrap ((al : Int) - 1) = 5 := by rw [show (al : Int) - 1 = 5 by omega]; rfl
      have q6 : ((6 : Int) == (al : Int)) = true := beq_iff_eq.mpr (by omega)
      clear ha6 HA
      go_wp2_with (go_at_call 66; go_must (refine (Nodes_calls _ A c 3 (by decide) (by decide)).mono ?_; rw [nodes_three]; rintro e w1 ⟨v, rfl, h1, h⟩; obtain ⟨g, cap, rfl, hcap, _, hg⟩ := OwnI.form h1 (by simp); obtain ⟨A9, c9, e9, k9, hC4⟩ := h1.slice; injection e9 with e9 e8 e10; clear e8; subst e9 e10; clear k9 h1; have HB1 := Aside0.mk (below_step HB.out h); have HX1 := Aside0.mk (blk_below HX.out h); clear h HB HX m0 m1 m2 m3 m4 m5 m6 m7 m8 m9 m10 m11 m12; have HB := HB1; have HX := HX1; clear HB1 HX1; obtain ⟨m0, m1, m2, m3, m4, m5, m6, m7, m8, m9, m10, m11, m12⟩ := tv_cells HX.out))
      have H4 := Aside0.mk (C_takeI hC4)
      have hs3 := slice3 (some ⟨g, 0, none⟩) 2 cap (by simp only [List.length_cons, List.length_nil] at hcap; omega)
      clear hcap hi hlt
      clear hC4 hg m0 m1 m2 m3 m4 m5 m6 m7 m8 m9 m10 m11 m12
      go_region_held3 (fun w' => w'.cell? ⟨w.heap.size, 0, none⟩ = some (.int .i64 1) ∧ w'.cell? ⟨w.heap.size, 1, none⟩ = some (.int .i64 2) ∧ w'.cell? ⟨w.heap.size, 2, none⟩ = some (.int .i64 2) ∧ w'.cell? ⟨w.heap.size, 3, none⟩ = some (.int .i64 3) ∧ w'.cell? ⟨w.heap.size, 4, none⟩ = some (.int .i64 3) ∧ w'.cell? ⟨w.heap.size, 5, none⟩ = some (.int .i64 1) ∧ w'.cell? ⟨w.heap.size, 6, none⟩ = some (.int .i64 0) ∧ w'.cell? ⟨w.heap.size, 7, none⟩ = some (.int .i64 0) ∧ w'.cell? ⟨w.heap.size, 8, none⟩ = some (.int .i64 0) ∧ w'.cell? ⟨w.heap.size, 9, none⟩ = some (.int .i64 0) ∧ w'.cell? ⟨w.heap.size, 10, none⟩ = some (.int .i64 0) ∧ w'.cell? ⟨w.heap.size, 11, none⟩ = some (.int .i64 0) ∧ w'.cell? ⟨w.heap.size, 12, none⟩ = some (.slice (some A) 5 c))
        (first | (focus (refine held_tree ?_; (repeat (first | with_reducible refine blk_drew ?_ | exact HX.out)); done)))
        (first | (go_at_call 88; go_must (refine (walk_calls _ A c g (Kd.C_below HC.out HB.out.drew) (Kd.C_below H4.out (Below.refl _ _).drew)).mono ?_; rintro e w3 ⟨A6, c6, rfl, h⟩; have HB1 := Aside0.mk (below_step HB.out.drew h); have HX1 := Aside0.mk (blk_below (blk_drew HX.out) h); clear h HB HX; have HB := HB1; have HX := HX1; clear HB1 HX1)))
      all_goals (go_wp2_with fail)
      all_goals go_ret
      all_goals exact ⟨rfl, HB.out⟩
end Go.Proofs.YtmapdfommjcebaaGreat.Own
