/- What is made new: links, an index, a table of cuts, peers, a store, a net. A cart's homes in the fixed tree, and its other home. A shard and a relay of the fixed tree, new. What a state, a node and a cluster of the fixed tree are, and what reads them. A relay of the fixed tree, new. A home of the fixed tree, new. -/
import Derived.Test.YtmapdfommjcebaaGreatTrA
import Derived.Test.YtmapdfommjcebaaGreatPTopWipedx9
import Derived.Carry
import Derived.Test.YtmapdfommjcebaaGreatTrB
import Derived.Deep.RegionHeld3
namespace Go.Proofs.YtmapdfommjcebaaGreat.Own
open Go.RowKit Go.Proofs.YtmapdfommjcebaaGreatW.PrintWords Go.Proofs.YtmapdfommjcebaaGreatW.PrintLast Go.Proofs.YtmapdfommjcebaaGreatW.PrintMore
theorem tv_put {w : World} {g : Nat} {A B : Addr} {c d : Nat} (h : w.heap[g]? = some (.cells #[Value.int .i64 1, .int .i64 2, .int .i64 2, .int .i64 3, .int .i64 3, .int .i64 1, .int .i64 0, .int .i64 0, .int .i64 0, .int .i64 0, .int .i64 0, .int .i64 0, .slice (some A) 5 c] 99 (0, 0))) : (w.setCell ⟨g, 12, none⟩ (.slice (some B) 5 d)).heap[g]? = some (.cells #[Value.int .i64 1, .int .i64 2, .int .i64 2, .int .i64 3, .int .i64 3, .int .i64 1, .int .i64 0, .int .i64 0, .int .i64 0, .int .i64 0, .int .i64 0, .int .i64 0, .slice (some B) 5 d] 99 (0, 0)) := blk_put h 12 _ rfl
/-- A cell that points to something. -/
def PtrAt (w : World) (g i : Nat) : Prop := ∃ b, w.cell? ⟨g, i, none⟩ = some (.pointer (some ⟨b, 0, none⟩))
theorem PtrAt.below {w w' : World} {g i : Nat} (h : PtrAt w g i) (hb : Below w.heap.size w w') : PtrAt w' g i := by
  obtain ⟨b, h⟩ := h
  exact ⟨b, pw_cell_below hb h⟩
theorem blk_ptr {w : World} {g i b : Nat} {cs : Array Value} {t : TypeId} (h : w.heap[g]? = some (.cells cs t (0, 0))) (hc : cs[i]? = some (.pointer (some ⟨b, 0, none⟩))) : PtrAt w g i := ⟨b, by rw [cell_of_row w g i _ _ _ h]; exact hc⟩
set_option maxHeartbeats 8000000 in
set_option maxRecDepth 100000 in
theorem linksNew (w : World) (n : Int) (h1 : 1 ≤ n) (h2 : n ≤ 12) :
    Calls Tryz.prog 107 #[.int .i64 n] w fun e w' => ∃ g, e = .returned (.tuple #[.pointer (some ⟨g, 0, none⟩), .int .i64 0]) ∧ Below w.heap.size w w' := by
  have HF := Aside0.mk (show PTopWiped.links_isNode.f n = some true by unfold PTopWiped.links_isNode.f; rw [if_pos h1, decide_eq_true h2])
  clear h1 h2
  go_enter Tryz.func107, Tryz.ntmps107
  go_wp2_with (go_at_call 126; go_must (refine (PTopWiped.links_isNode.calls _ true _ HF.out).mono ?_; rintro e w2 ⟨rfl, h⟩; have HB := Aside0.mk h.below; clear h))
  go_ret2
  exact ⟨_, rfl, below_alloc HB.out _⟩
set_option maxHeartbeats 8000000 in
set_option maxRecDepth 100000 in
theorem indexNew (w : World) (n : Int) (h1 : 1 ≤ n) (h2 : n ≤ 12) :
    Calls Tryz.prog 122 #[.int .i64 n] w fun e w' => ∃ g, e = .returned (.tuple #[.pointer (some ⟨g, 0, none⟩), .int .i64 0]) ∧ Below w.heap.size w w' := by
  have HF := Aside0.mk (show PTopWiped.index_isCart.f n = some true by unfold PTopWiped.index_isCart.f; rw [if_pos h1, decide_eq_true h2])
  clear h1 h2
  go_enter Tryz.func122, Tryz.ntmps122
  go_wp2_with (go_at_call 142; go_must (refine (PTopWiped.index_isCart.calls _ true _ HF.out).mono ?_; rintro e w2 ⟨rfl, h⟩; have HB := Aside0.mk h.below; clear h))
  go_ret2
  exact ⟨_, rfl, below_alloc HB.out _⟩
set_option maxHeartbeats 8000000 in
set_option maxRecDepth 100000 in
theorem peersNew (w : World) (n : Int) (h1 : 1 ≤ n) (h2 : n ≤ 12) :
    Calls Tryz.prog 124 #[.int .i64 n] w fun e w' => ∃ g, e = .returned (.tuple #[.pointer (some ⟨g, 0, none⟩), .int .i64 0]) ∧ Below w.heap.size w w' := by
  have HF := Aside0.mk (show PTopWiped.peers_isNode.f n = some true by unfold PTopWiped.peers_isNode.f; rw [if_pos h1, decide_eq_true h2])
  clear h1 h2
  go_enter Tryz.func124, Tryz.ntmps124
  go_wp2_with (go_at_call 144; go_must (refine (PTopWiped.peers_isNode.calls _ true _ HF.out).mono ?_; rintro e w2 ⟨rfl, h⟩; have HB := Aside0.mk h.below; clear h))
  go_ret2
  exact ⟨_, rfl, below_alloc HB.out _⟩
set_option maxHeartbeats 8000000 in
set_option maxRecDepth 100000 in
theorem cutsNew (w : World) (n o : Int) (h1 : 1 ≤ n) (h2 : n ≤ 12) (h3 : 1 ≤ o) (h4 : o ≤ 12) (h5 : n ≠ o) :
    Calls Tryz.prog 123 #[.int .i64 n, .int .i64 o] w fun e w' => ∃ g, e = .returned (.tuple #[.pointer (some ⟨g, 0, none⟩), .int .i64 0]) ∧ Below w.heap.size w w' := by
  have HF := Aside0.mk (show PTopWiped.cuts_isNode.f n = some true by unfold PTopWiped.cuts_isNode.f; rw [if_pos h1, decide_eq_true h2])
  have HG := Aside0.mk (show PTopWiped.cuts_isNode.f o = some true by unfold PTopWiped.cuts_isNode.f; rw [if_pos h3, decide_eq_true h4])
  have q1 : (o != 0) = true := bne_iff_ne.mpr (by omega)
  have q2 : (n == o) = false := beq_false_of_ne h5
  have t1 : True := trivial
  have t2 : True := trivial
  clear h1 h2 h3 h4 h5
  go_enter Tryz.func123, Tryz.ntmps123
  go_wp2_with (first
    | (go_at_call 143; have _t := t1; clear t1; go_must (refine (PTopWiped.cuts_isNode.calls n true _ HF.out).mono ?_; rintro e w2 ⟨rfl, h⟩; have HB := Aside0.mk h.below; clear h))
    | (go_at_call 143; have _t := t2; clear t2; go_must (refine (PTopWiped.cuts_isNode.calls o true _ HG.out).mono ?_; rintro e w2 ⟨rfl, h⟩; have HC := Aside0.mk (below_step HB.out h.below); clear h HB)))
  go_ret2
  exact ⟨_, rfl, below_alloc HC.out _⟩
set_option maxHeartbeats 8000000 in
set_option maxRecDepth 100000 in
theorem storeNew (w : World) : Calls Tryz.prog 125 #[] w fun e w' => ∃ g, e = .returned (.pointer (some ⟨g, 0, none⟩)) ∧ Below w.heap.size w w' := by
  have hmm := fun W : World => run_makeMap (P := Tryz.prog) 262 W
  go_enter Tryz.func125, Tryz.ntmps125
  go_wp2
  go_ret
  exact ⟨_, rfl, below_alloc (below_alloc (Below.refl _ _) _) _⟩
set_option maxHeartbeats 8000000 in
set_option maxRecDepth 100000 in
theorem netNew (w : World) : Calls Tryz.prog 68 #[] w fun e w' => ∃ g, e = .returned (.pointer (some ⟨g, 0, none⟩)) ∧ Below w.heap.size w w' := by
  go_enter Tryz.func68, Tryz.ntmps68
  go_wp2
  go_ret
  exact ⟨_, rfl, below_alloc (Below.refl _ _) _⟩
end Go.Proofs.YtmapdfommjcebaaGreat.Own
namespace Go.Proofs.YtmapdfommjcebaaGreat.Own
open Go.RowKit Go.Proofs.YtmapdfommjcebaaGreatW.PrintWords Go.Proofs.YtmapdfommjcebaaGreatW.PrintLast Go.Proofs.YtmapdfommjcebaaGreatW.PrintMore
theorem nodes_one : nodesTo 1 12 = [1, 6] := by kernel_rfl
theorem C_two' {W : World} {a b : Int} {g : Nat} {t : TypeId} (h : W.heap[g]? = some (.cells #[.int .i64 a, .int .i64 b] t (0, 0))) : (Kd.int .i64).C W (some ⟨g, 0, none⟩) [a, b].length [a, b] := by
  refine C_blk rfl h (by simp) fun j x hj => ⟨.int .i64 x, ?_, rfl⟩
  match j, hj with
  | 0, hj => obtain rfl := Option.some.inj hj; rfl
  | 1, hj => obtain rfl := Option.some.inj hj; rfl
  | n + 2, hj => simp at hj
def homesL (n : Int) : List Int := if n % 2 = 0 then [1, 6] else [6, 1]
set_option maxHeartbeats 8000000 in
set_option maxRecDepth 100000 in
theorem Homes_calls (w : World) (A : Addr) (c : Nat) (n : Int) (h1 : 1 ≤ n) (h12 : n ≤ 12) :
    Calls Tryz.prog 141 #[.agg #[Value.int .i64 1, .int .i64 2, .int .i64 2, .int .i64 3, .int .i64 3, .int .i64 1, .int .i64 0, .int .i64 0, .int .i64 0, .int .i64 0, .int .i64 0, .int .i64 0, .slice (some A) 5 c], .int .i64 n] w fun e w' => ∃ g, e = .returned (.slice (some ⟨g, 0, none⟩) 2 2) ∧ (Kd.int .i64).C w' (some ⟨g, 0, none⟩) (homesL n).length (homesL n) ∧ Below w.heap.size w w' := by
  have HX := Aside0.mk (heap_at (w := w) (o := .cells #[Value.int .i64 1, .int .i64 2, .int .i64 2, .int .i64 3, .int .i64 3, .int .i64 1, .int .i64 0, .int .i64 0, .int .i64 0, .int .i64 0, .int .i64 0, .int .i64 0, .slice (some A) 5 c] 99) (g := w.heap.size) rfl)
  have q1 : ¬ n < 1 := by omega
  have ht : n.tmod 2 = n % 2 := Int.tmod_eq_emod_of_nonneg (by omega)
  obtain ⟨m0, m1, m2, m3, m4, m5, m6, m7, m8, m9, m10, m11, m12⟩ := tv_cells HX.out
  by_cases hp : n % 2 = 0
  · rw [show homesL n = [1, 6] from if_pos hp]
    rw [hp] at ht
    clear hp h1 h12
    go_enter Tryz.func141, Tryz.ntmps141
    go_wp2_with (go_at_call 66; go_must (refine (Nodes_calls _ A c 1 (by decide) (by decide)).mono ?_; rw [nodes_one]; rintro e w1 ⟨v, rfl, h1, h⟩; obtain ⟨g, cap, rfl, hcap, _, hg⟩ := OwnI.form h1 (by simp); have HB := Aside0.mk (below_step (below_alloc (Below.refl w.heap.size w) (.cells #[Value.int .i64 1, .int .i64 2, .int .i64 2, .int .i64 3, .int .i64 3, .int .i64 1, .int .i64 0, .int .i64 0, .int .i64 0, .int .i64 0, .int .i64 0, .int .i64 0, .slice (some A) 5 c] 99)) h); have c0 := hg 0 1 rfl; have c1 := hg 1 6 rfl; clear h h1 hg HX m0 m1 m2 m3 m4 m5 m6 m7 m8 m9 m10 m11 m12))
    go_region
    all_goals (go_wp2_with fail)
    all_goals go_ret
    all_goals exact ⟨_, rfl, C_two' (by first | exact heap_at rfl | exact blk_drew (heap_at rfl)), below_alloc HB.out.drew _⟩
  · have hp1 : n % 2 = 1 := by omega
    rw [show homesL n = [6, 1] from if_neg hp]
    rw [hp1] at ht
    clear hp hp1 h1 h12
    go_enter Tryz.func141, Tryz.ntmps141
    go_wp2_with (go_at_call 66; go_must (refine (Nodes_calls _ A c 1 (by decide) (by decide)).mono ?_; rw [nodes_one]; rintro e w1 ⟨v, rfl, h1, h⟩; obtain ⟨g, cap, rfl, hcap, _, hg⟩ := OwnI.form h1 (by simp); have HB := Aside0.mk (below_step (below_alloc (Below.refl w.heap.size w) (.cells #[Value.int .i64 1, .int .i64 2, .int .i64 2, .int .i64 3, .int .i64 3, .int .i64 1, .int .i64 0, .int .i64 0, .int .i64 0, .int .i64 0, .int .i64 0, .int .i64 0, .slice (some A) 5 c] 99)) h); have c0 := hg 0 1 rfl; have c1 := hg 1 6 rfl; clear h h1 hg HX m0 m1 m2 m3 m4 m5 m6 m7 m8 m9 m10 m11 m12))
    go_region
    all_goals (go_wp2_with fail)
    all_goals go_ret
    all_goals exact ⟨_, rfl, C_two' (by first | exact heap_at rfl | exact blk_drew (heap_at rfl)), below_alloc HB.out.drew _⟩
theorem cells_two {w : World} {g : Nat} {a b : Int} (h : (Kd.int .i64).C w (some ⟨g, 0, none⟩) [a, b].length [a, b]) : w.cell? ⟨g, 0, none⟩ = some (.int .i64 a) ∧ w.cell? ⟨g, 1, none⟩ = some (.int .i64 b) := by
  obtain ⟨a0, e0, h0⟩ := atInts h 0 a rfl
  obtain ⟨a1, e1, h1⟩ := atInts h 1 b rfl
  injection e0 with e0
  injection e1 with e1
  subst e0 e1
  exact ⟨h0, h1⟩
set_option maxHeartbeats 8000000 in
set_option maxRecDepth 100000 in
theorem other_of (w : World) (A : Addr) (c : Nat) (m n a b i o : Int) (h1 : 1 ≤ n) (h12 : n ≤ 12) (hl : homesL n = [a, b]) (hf : PTopWiped.slices_Index_int_int.f 30 [a, b] m = some i)
    (hi : i = 0 ∧ o = b ∨ i = 1 ∧ o = a) :
    Calls Tryz.prog 121 #[.agg #[Value.int .i64 1, .int .i64 2, .int .i64 2, .int .i64 3, .int .i64 3, .int .i64 1, .int .i64 0, .int .i64 0, .int .i64 0, .int .i64 0, .int .i64 0, .int .i64 0, .slice (some A) 5 c], .int .i64 m, .int .i64 n] w fun e w' => e = .returned (.tuple #[.int .i64 o, .bool true]) ∧ Below w.heap.size w w' := by
  have HX := Aside0.mk (heap_at (w := w) (o := .cells #[Value.int .i64 1, .int .i64 2, .int .i64 2, .int .i64 3, .int .i64 3, .int .i64 1, .int .i64 0, .int .i64 0, .int .i64 0, .int .i64 0, .int .i64 0, .int .i64 0, .slice (some A) 5 c] 99) (g := w.heap.size) rfl)
  have HF := Aside0.mk hf
  have HL := Aside0.mk hl
  obtain ⟨m0, m1, m2, m3, m4, m5, m6, m7, m8, m9, m10, m11, m12⟩ := tv_cells HX.out
  clear hf hl
  rcases hi with ⟨rfl, rfl⟩ | ⟨rfl, rfl⟩
  all_goals
    go_enter Tryz.func121, Tryz.ntmps121
    go_wp2_with (first
      | (go_at_call 141; go_must (refine (Homes_calls _ A c n h1 h12).mono ?_; rw [HL.out]; rintro e w1 ⟨g, rfl, hC, h⟩; have HB := Aside0.mk (below_step (below_alloc (Below.refl w.heap.size w) (.cells #[Value.int .i64 1, .int .i64 2, .int .i64 2, .int .i64 3, .int .i64 3, .int .i64 1, .int .i64 0, .int .i64 0, .int .i64 0, .int .i64 0, .int .i64 0, .int .i64 0, .slice (some A) 5 c] 99)) h); have HC := Aside0.mk hC; clear h hC HX m0 m1 m2 m3 m4 m5 m6 m7 m8 m9 m10 m11 m12))
      | (go_at_call 118; go_must (refine (PTopWiped.slices_Index_int_int.calls 30 _ 2 _ m _ _ HC.out (by simp) HF.out).mono ?_; rintro e w2 ⟨rfl, h⟩; have HB2 := Aside0.mk (below_step HB.out h.below); obtain ⟨c0, c1⟩ := cells_two (Kd.C_below HC.out h.below); clear h HB)))
    go_ret2
    exact ⟨rfl, HB2.out⟩
theorem other_calls (w : World) (A : Addr) (c : Nat) (m n : Int) (hm : m = 1 ∨ m = 6) (h1 : 1 ≤ n) (h12 : n ≤ 12) :
    Calls Tryz.prog 121 #[.agg #[Value.int .i64 1, .int .i64 2, .int .i64 2, .int .i64 3, .int .i64 3, .int .i64 1, .int .i64 0, .int .i64 0, .int .i64 0, .int .i64 0, .int .i64 0, .int .i64 0, .slice (some A) 5 c], .int .i64 m, .int .i64 n] w fun e w' => e = .returned (.tuple #[.int .i64 (7 - m), .bool true]) ∧ Below w.heap.size w w' := by
  by_cases hp : n % 2 = 0
  · rcases hm with rfl | rfl
    · exact other_of w A c 1 n 1 6 0 6 h1 h12 (if_pos hp) (by kernel_rfl) (.inl ⟨rfl, rfl⟩)
    · exact other_of w A c 6 n 1 6 1 1 h1 h12 (if_pos hp) (by kernel_rfl) (.inr ⟨rfl, rfl⟩)
  · rcases hm with rfl | rfl
    · exact other_of w A c 1 n 6 1 1 6 h1 h12 (if_neg hp) (by kernel_rfl) (.inr ⟨rfl, rfl⟩)
    · exact other_of w A c 6 n 6 1 0 1 h1 h12 (if_neg hp) (by kernel_rfl) (.inl ⟨rfl, rfl⟩)
end Go.Proofs.YtmapdfommjcebaaGreat.Own
namespace Go.Proofs.YtmapdfommjcebaaGreat.Own
open Go.RowKit Go.Proofs.YtmapdfommjcebaaGreatW.PrintWords Go.Proofs.YtmapdfommjcebaaGreatW.PrintLast Go.Proofs.YtmapdfommjcebaaGreatW.PrintMore
open PTopWiped
set_option maxHeartbeats 8000000 in
set_option maxRecDepth 100000 in
theorem shardNew (w : World) (A : Addr) (c : Nat) (n : Int) (hC : Kd.C k142 w (some A) 5 tes) (hc : 5 ≤ c) (h1 : 1 ≤ n) (h12 : n ≤ 12) (hk : tKind n = 2) :
    Calls Tryz.prog 105 #[.agg #[Value.int .i64 1, .int .i64 2, .int .i64 2, .int .i64 3, .int .i64 3, .int .i64 1, .int .i64 0, .int .i64 0, .int .i64 0, .int .i64 0, .int .i64 0, .int .i64 0, .slice (some A) 5 c], .int .i64 n] w fun e w' => ∃ g, e = .returned (.tuple #[.pointer (some ⟨g, 0, none⟩), .int .i64 0]) ∧ w.heap.size ≤ g ∧ PtrAt w' g 15 ∧ PtrAt w' g 16 ∧ PtrAt w' g 17 ∧ Below w.heap.size w w' := by
  have HC := Aside0.mk hC
  have HK := Aside0.mk hk
  have HX := Aside0.mk (heap_at (w := w) (o := .cells #[Value.int .i64 1, .int .i64 2, .int .i64 2, .int .i64 3, .int .i64 3, .int .i64 1, .int .i64 0, .int .i64 0, .int .i64 0, .int .i64 0, .int .i64 0, .int .i64 0, .slice (some A) 5 c] 99) (g := w.heap.size) rfl)
  have HB := Aside0.mk (below_alloc (Below.refl w.heap.size w) (.cells #[Value.int .i64 1, .int .i64 2, .int .i64 2, .int .i64 3, .int .i64 3, .int .i64 1, .int .i64 0, .int .i64 0, .int .i64 0, .int .i64 0, .int .i64 0, .int .i64 0, .slice (some A) 5 c] 99))
  have HCC := Aside0.mk hc
  clear hC hk hc
  obtain ⟨m0, m1, m2, m3, m4, m5, m6, m7, m8, m9, m10, m11, m12⟩ := tv_cells HX.out
  go_enter Tryz.func105, Tryz.ntmps105
  go_wp2_with (first
    | (go_at_call 65; go_must (refine (Right_tree _ A c (Kd.C_below HC.out HB.out) HCC.out).mono ?_; rintro e w1 ⟨rfl, h⟩; have HB1 := Aside0.mk (below_step HB.out h); have HX1 := Aside0.mk (blk_below HX.out h); clear h HB HX m0 m1 m2 m3 m4 m5 m6 m7 m8 m9 m10 m11 m12; have HB := HB1; have HX := HX1; clear HB1 HX1; obtain ⟨m0, m1, m2, m3, m4, m5, m6, m7, m8, m9, m10, m11, m12⟩ := tv_cells HX.out))
    | (go_at_call 69; go_must (refine (Kind_calls _ A c n).mono ?_; rw [HK.out]; rintro e w2 ⟨rfl, h⟩; have HB1 := Aside0.mk (below_step HB.out h); have HX1 := Aside0.mk (blk_below HX.out h); clear h HB HX m0 m1 m2 m3 m4 m5 m6 m7 m8 m9 m10 m11 m12; have HB := HB1; have HX := HX1; clear HB1 HX1; obtain ⟨m0, m1, m2, m3, m4, m5, m6, m7, m8, m9, m10, m11, m12⟩ := tv_cells HX.out))
    | (go_at_call 67; go_must (refine (CloneE_calls _ A c (Kd.C_below HC.out HB.out)).mono ?_; rintro e w3 ⟨gs, cap, rfl, _, _, h⟩; have HB1 := Aside0.mk (below_step HB.out h); have HX1 := Aside0.mk (blk_below HX.out h); clear h HB HX m0 m1 m2 m3 m4 m5 m6 m7 m8 m9 m10 m11 m12; have HB := HB1; have HX := HX1; clear HB1 HX1; have m12 := cell_of_row _ _ 12 _ _ _ HX.out; have HB2 := Aside0.mk (below_set (j := 12) (v := .slice (some ⟨gs, 0, none⟩) 5 cap) HB.out (Nat.le_refl _)); have HX2 := Aside0.mk (tv_put (B := ⟨gs, 0, none⟩) (d := cap) HX.out); have f12 := blk_frozen HX.out 12; clear HB HX; have HB := HB2; have HX := HX2; clear HB2 HX2))
    | (go_at_call 124; go_must (refine (peersNew _ n h1 h12).mono ?_; rintro e w4 ⟨gp, rfl, h⟩; have HB1 := Aside0.mk (below_step HB.out h); have HX1 := Aside0.mk (blk_below HX.out h); clear h HB HX f12 m12; have HB := HB1; have HX := HX1; clear HB1 HX1))
    | (go_at_call 107; go_must (refine (linksNew _ n h1 h12).mono ?_; rintro e w5 ⟨gl, rfl, h⟩; have HB1 := Aside0.mk (below_step HB.out h); have HX1 := Aside0.mk (blk_below HX.out h); clear h HB HX; have HB := HB1; have HX := HX1; clear HB1 HX1; obtain ⟨m0, m1, m2, m3, m4, m5, m6, m7, m8, m9, m10, m11, m12⟩ := tv_cells HX.out)))
  go_region_with (first | (go_at_call 125; go_must (refine (storeNew _).mono ?_; rintro e w6 ⟨gt, rfl, h⟩; have HB1 := Aside0.mk (below_step HB.out.drew h); have HX1 := Aside0.mk (blk_below (blk_drew HX.out) h); clear h HB HX m0 m1 m2 m3 m4 m5 m6 m7 m8 m9 m10 m11 m12; have HB := HB1; have HX := HX1; clear HB1 HX1; obtain ⟨m0, m1, m2, m3, m4, m5, m6, m7, m8, m9, m10, m11, m12⟩ := tv_cells HX.out)))
  all_goals (go_wp2_with fail)
  all_goals go_ret2
  all_goals exact ⟨_, rfl, HB.out.size, blk_ptr (heap_at rfl) rfl, blk_ptr (heap_at rfl) rfl, blk_ptr (heap_at rfl) rfl, below_alloc HB.out _⟩
end Go.Proofs.YtmapdfommjcebaaGreat.Own
namespace Go.Proofs.YtmapdfommjcebaaGreat.Own
open Go.RowKit Go.Proofs.YtmapdfommjcebaaGreatW.PrintWords Go.Proofs.YtmapdfommjcebaaGreatW.PrintLast Go.Proofs.YtmapdfommjcebaaGreatW.PrintMore
/-- What a state's parts have. -/
def PartsP (w : World) (a : Nat) (n : Int) (hv sv lv : Value) : Prop :=
  (tKind n = 1 ∧ ∃ hb, hv = .pointer (some ⟨hb, 0, none⟩) ∧ a ≤ hb ∧ PtrAt w hb 15) ∨
  (tKind n = 2 ∧ ∃ sb, sv = .pointer (some ⟨sb, 0, none⟩) ∧ a ≤ sb ∧ PtrAt w sb 15 ∧ PtrAt w sb 16 ∧ PtrAt w sb 17) ∨
  (tKind n = 3 ∧ ∃ lb, lv = .pointer (some ⟨lb, 0, none⟩))
/-- A state that is made. -/
def StateP (w : World) (a s : Nat) (n : Int) : Prop :=
  a ≤ s ∧ ∃ A c hv sv rv lv, w.heap[s]? = some (.cells #[Value.int .i64 1, .int .i64 2, .int .i64 2, .int .i64 3, .int .i64 3, .int .i64 1, .int .i64 0, .int .i64 0, .int .i64 0, .int .i64 0, .int .i64 0, .int .i64 0, .slice (some A) 5 c, .int .i64 n, hv, sv, rv, lv] 184 (0, 0)) ∧ PartsP w a n hv sv lv
theorem PtrAt.same {w w' : World} {g i : Nat} (h : PtrAt w g i) (hs : w'.heap[g]? = w.heap[g]?) : PtrAt w' g i := by
  obtain ⟨b, h⟩ := h
  refine ⟨b, ?_⟩
  rw [← h]
  simp only [World.cell?, hs]
theorem PtrAt.lt {w : World} {g i : Nat} (h : PtrAt w g i) : g < w.heap.size := by
  obtain ⟨b, h⟩ := h
  exact World.block_lt_of_cell? w _ h
/-- What is so of the blocks from a on stays so while these stay. -/
theorem StateP.same {w w' : World} {a s : Nat} {n : Int} (h : StateP w a s n) (hs : ∀ k, a ≤ k → k < w.heap.size → w'.heap[k]? = w.heap[k]?) : StateP w' a s n := by
  obtain ⟨ha, A, c, hv, sv, rv, lv, h, hp⟩ := h
  refine ⟨ha, A, c, hv, sv, rv, lv, (hs s ha (blk_lt h)).trans h, ?_⟩
  rcases hp with ⟨k, b, e, l, p⟩ | ⟨k, b, e, l, p, q, r⟩ | ⟨k, b, e⟩
  · exact .inl ⟨k, b, e, l, p.same (hs b l p.lt)⟩
  · exact .inr (.inl ⟨k, b, e, l, p.same (hs b l p.lt), q.same (hs b l p.lt), r.same (hs b l p.lt)⟩)
  · exact .inr (.inr ⟨k, b, e⟩)
theorem StateP.below {w w' : World} {a s : Nat} {n : Int} (h : StateP w a s n) (hb : Below w.heap.size w w') : StateP w' a s n := h.same fun k _ hk => hb.block k hk
theorem sc_cells {w : World} {g : Nat} {A : Addr} {c : Nat} {n : Int} {hv sv rv lv : Value} {t : TypeId} {f : Nat × Nat} (h : w.heap[g]? = some (.cells #[Value.int .i64 1, .int .i64 2, .int .i64 2, .int .i64 3, .int .i64 3, .int .i64 1, .int .i64 0, .int .i64 0, .int .i64 0, .int .i64 0, .int .i64 0, .int .i64 0, .slice (some A) 5 c, .int .i64 n, hv, sv, rv, lv] t f)) : (w.cell? ⟨g, 0, none⟩ = some (.int .i64 1) ∧ w.cell? ⟨g, 1, none⟩ = some (.int .i64 2) ∧ w.cell? ⟨g, 2, none⟩ = some (.int .i64 2) ∧ w.cell? ⟨g, 3, none⟩ = some (.int .i64 3) ∧ w.cell? ⟨g, 4, none⟩ = some (.int .i64 3) ∧ w.cell? ⟨g, 5, none⟩ = some (.int .i64 1) ∧ w.cell? ⟨g, 6, none⟩ = some (.int .i64 0) ∧ w.cell? ⟨g, 7, none⟩ = some (.int .i64 0) ∧ w.cell? ⟨g, 8, none⟩ = some (.int .i64 0) ∧ w.cell? ⟨g, 9, none⟩ = some (.int .i64 0) ∧ w.cell? ⟨g, 10, none⟩ = some (.int .i64 0) ∧ w.cell? ⟨g, 11, none⟩ = some (.int .i64 0) ∧ w.cell? ⟨g, 12, none⟩ = some (.slice (some A) 5 c)) ∧ w.cell? ⟨g, 13, none⟩ = some (.int .i64 n) ∧ w.cell? ⟨g, 14, none⟩ = some hv ∧ w.cell? ⟨g, 15, none⟩ = some sv ∧ w.cell? ⟨g, 16, none⟩ = some rv ∧ w.cell? ⟨g, 17, none⟩ = some lv :=
  ⟨⟨cell_of_row w g 0 _ t f h, cell_of_row w g 1 _ t f h, cell_of_row w g 2 _ t f h, cell_of_row w g 3 _ t f h, cell_of_row w g 4 _ t f h, cell_of_row w g 5 _ t f h, cell_of_row w g 6 _ t f h, cell_of_row w g 7 _ t f h, cell_of_row w g 8 _ t f h, cell_of_row w g 9 _ t f h, cell_of_row w g 10 _ t f h, cell_of_row w g 11 _ t f h, cell_of_row w g 12 _ t f h⟩, cell_of_row w g 13 _ t f h, cell_of_row w g 14 _ t f h, cell_of_row w g 15 _ t f h, cell_of_row w g 16 _ t f h, cell_of_row w g 17 _ t f h⟩
/-! ### What reads a cell -/
set_option maxHeartbeats 8000000 in
set_option maxRecDepth 100000 in
theorem homeLinks (w : World) (g b : Nat) (h : w.cell? ⟨g, 15, none⟩ = some (.pointer (some ⟨b, 0, none⟩))) : Calls Tryz.prog 127 #[.pointer (some ⟨g, 0, none⟩)] w fun e w' => e = .returned (.pointer (some ⟨b, 0, none⟩)) ∧ w = w' := by
  go_enter Tryz.func127, Tryz.ntmps127
  go_wp2
  go_ret
  exact ⟨rfl, rfl⟩
set_option maxHeartbeats 8000000 in
set_option maxRecDepth 100000 in
theorem shardLinks (w : World) (g b : Nat) (h : w.cell? ⟨g, 17, none⟩ = some (.pointer (some ⟨b, 0, none⟩))) : Calls Tryz.prog 128 #[.pointer (some ⟨g, 0, none⟩)] w fun e w' => e = .returned (.pointer (some ⟨b, 0, none⟩)) ∧ w = w' := by
  go_enter Tryz.func128, Tryz.ntmps128
  go_wp2
  go_ret
  exact ⟨rfl, rfl⟩
set_option maxHeartbeats 8000000 in
set_option maxRecDepth 100000 in
theorem shardPeers (w : World) (g b : Nat) (h : w.cell? ⟨g, 15, none⟩ = some (.pointer (some ⟨b, 0, none⟩))) : Calls Tryz.prog 112 #[.pointer (some ⟨g, 0, none⟩)] w fun e w' => e = .returned (.pointer (some ⟨b, 0, none⟩)) ∧ w = w' := by
  go_enter Tryz.func112, Tryz.ntmps112
  go_wp2
  go_ret
  exact ⟨rfl, rfl⟩
set_option maxHeartbeats 8000000 in
set_option maxRecDepth 100000 in
theorem shardStore (w : World) (g b : Nat) (h : w.cell? ⟨g, 16, none⟩ = some (.pointer (some ⟨b, 0, none⟩))) : Calls Tryz.prog 113 #[.pointer (some ⟨g, 0, none⟩)] w fun e w' => e = .returned (.pointer (some ⟨b, 0, none⟩)) ∧ w = w' := by
  go_enter Tryz.func113, Tryz.ntmps113
  go_wp2
  go_ret
  exact ⟨rfl, rfl⟩
set_option maxHeartbeats 8000000 in
set_option maxRecDepth 100000 in
theorem stateShard (w : World) (g b : Nat) (h : w.cell? ⟨g, 15, none⟩ = some (.pointer (some ⟨b, 0, none⟩))) : Calls Tryz.prog 111 #[.pointer (some ⟨g, 0, none⟩)] w fun e w' => e = .returned (.pointer (some ⟨b, 0, none⟩)) ∧ w = w' := by
  go_enter Tryz.func111, Tryz.ntmps111
  go_wp2
  go_ret
  exact ⟨rfl, rfl⟩
set_option maxHeartbeats 8000000 in
set_option maxRecDepth 100000 in
theorem stateHome (w : World) (g b : Nat) (h : w.cell? ⟨g, 14, none⟩ = some (.pointer (some ⟨b, 0, none⟩))) : Calls Tryz.prog 110 #[.pointer (some ⟨g, 0, none⟩)] w fun e w' => e = .returned (.pointer (some ⟨b, 0, none⟩)) ∧ w = w' := by
  go_enter Tryz.func110, Tryz.ntmps110
  go_wp2
  go_ret
  exact ⟨rfl, rfl⟩
set_option maxHeartbeats 8000000 in
set_option maxRecDepth 100000 in
theorem nodeLog (w : World) (g b : Nat) (h : w.cell? ⟨g, 0, none⟩ = some (.pointer (some ⟨b, 0, none⟩))) : Calls Tryz.prog 17 #[.pointer (some ⟨g, 0, none⟩)] w fun e w' => e = .returned (.pointer (some ⟨b, 0, none⟩)) ∧ w = w' := by
  go_enter Tryz.func17, Tryz.ntmps17
  go_wp2
  go_ret
  exact ⟨rfl, rfl⟩
set_option maxHeartbeats 8000000 in
set_option maxRecDepth 100000 in
theorem nodeState (w : World) (g b : Nat) (h : w.cell? ⟨g, 1, none⟩ = some (.pointer (some ⟨b, 0, none⟩))) : Calls Tryz.prog 92 #[.pointer (some ⟨g, 0, none⟩)] w fun e w' => e = .returned (.pointer (some ⟨b, 0, none⟩)) ∧ w = w' := by
  go_enter Tryz.func92, Tryz.ntmps92
  go_wp2
  go_ret
  exact ⟨rfl, rfl⟩
set_option maxHeartbeats 8000000 in
set_option maxRecDepth 100000 in
theorem clusterNet (w : World) (g b : Nat) (h : w.cell? ⟨g, 13, none⟩ = some (.pointer (some ⟨b, 0, none⟩))) : Calls Tryz.prog 71 #[.pointer (some ⟨g, 0, none⟩)] w fun e w' => e = .returned (.pointer (some ⟨b, 0, none⟩)) ∧ w = w' := by
  go_enter Tryz.func71, Tryz.ntmps71
  go_wp2
  go_ret
  exact ⟨rfl, rfl⟩
set_option maxHeartbeats 8000000 in
set_option maxRecDepth 100000 in
theorem clusterMade (w : World) (g b : Nat) (h : w.cell? ⟨g, 13, none⟩ = some (.pointer (some ⟨b, 0, none⟩))) : Calls Tryz.prog 73 #[.pointer (some ⟨g, 0, none⟩)] w fun e w' => e = .returned (.bool true) ∧ w = w' := by
  go_enter Tryz.func73, Tryz.ntmps73
  go_wp2
  go_ret
  exact ⟨rfl, rfl⟩
set_option maxHeartbeats 8000000 in
set_option maxRecDepth 100000 in
theorem logGen (w : World) (g : Nat) (h : w.cell? ⟨g, 1, none⟩ = some (.int .u32 1)) : Calls Tryz.prog 18 #[.pointer (some ⟨g, 0, none⟩)] w fun e w' => e = .returned (.int .u32 1) ∧ w = w' := by
  go_enter Tryz.func18, Tryz.ntmps18
  go_wp2
  go_ret
  exact ⟨rfl, rfl⟩
set_option maxHeartbeats 8000000 in
set_option maxRecDepth 100000 in
theorem stateKind (w : World) (s : Nat) (A : Addr) (c : Nat) (n : Int) (hv sv rv lv : Value) (h : w.heap[s]? = some (.cells #[Value.int .i64 1, .int .i64 2, .int .i64 2, .int .i64 3, .int .i64 3, .int .i64 1, .int .i64 0, .int .i64 0, .int .i64 0, .int .i64 0, .int .i64 0, .int .i64 0, .slice (some A) 5 c, .int .i64 n, hv, sv, rv, lv] 184 (0, 0))) :
    Calls Tryz.prog 109 #[.pointer (some ⟨s, 0, none⟩)] w fun e w' => e = .returned (.int .i64 (tKind n)) ∧ Below w.heap.size w w' := by
  obtain ⟨⟨m0, m1, m2, m3, m4, m5, m6, m7, m8, m9, m10, m11, m12⟩, m13, m14, m15, m16, m17⟩ := sc_cells h
  have HX := Aside0.mk h
  clear h m14 m15 m16 m17
  go_enter Tryz.func109, Tryz.ntmps109
  go_wp2_with fail
  clear m13 m0 m1 m2 m3 m4 m5 m6 m7 m8 m9 m10 m11 m12
  go_region_held3 (fun w' => (w'.cell? ⟨s, 0, none⟩ = some (.int .i64 1) ∧ w'.cell? ⟨s, 1, none⟩ = some (.int .i64 2) ∧ w'.cell? ⟨s, 2, none⟩ = some (.int .i64 2) ∧ w'.cell? ⟨s, 3, none⟩ = some (.int .i64 3) ∧ w'.cell? ⟨s, 4, none⟩ = some (.int .i64 3) ∧ w'.cell? ⟨s, 5, none⟩ = some (.int .i64 1) ∧ w'.cell? ⟨s, 6, none⟩ = some (.int .i64 0) ∧ w'.cell? ⟨s, 7, none⟩ = some (.int .i64 0) ∧ w'.cell? ⟨s, 8, none⟩ = some (.int .i64 0) ∧ w'.cell? ⟨s, 9, none⟩ = some (.int .i64 0) ∧ w'.cell? ⟨s, 10, none⟩ = some (.int .i64 0) ∧ w'.cell? ⟨s, 11, none⟩ = some (.int .i64 0) ∧ w'.cell? ⟨s, 12, none⟩ = some (.slice (some A) 5 c)) ∧ w'.cell? ⟨s, 13, none⟩ = some (.int .i64 n) ∧ w'.cell? ⟨s, 14, none⟩ = some hv ∧ w'.cell? ⟨s, 15, none⟩ = some sv ∧ w'.cell? ⟨s, 16, none⟩ = some rv ∧ w'.cell? ⟨s, 17, none⟩ = some lv)
    (first | (focus (refine sc_cells (t := 184) (f := (0, 0)) ?_; (repeat (first | with_reducible refine blk_drew ?_ | exact HX.out)); done)))
    (first | (go_at_call 69; go_must (refine (Kind_calls _ A c n).mono ?_; rintro e w1 ⟨rfl, h⟩; have HB := Aside0.mk (below_step (below_drew1 (Below.refl _ w)) h); have HX1 := Aside0.mk (blk_below (blk_drew HX.out) h); clear h HX; have HX := HX1; clear HX1)))
  all_goals (go_wp2_with fail)
  all_goals go_ret
  all_goals exact ⟨rfl, HB.out⟩
/-! ### A state's links, and whether all is made -/
set_option maxHeartbeats 8000000 in
set_option maxRecDepth 100000 in
theorem stateLinks (w : World) (a s : Nat) (n : Int) (h : StateP w a s n) :
    Calls Tryz.prog 108 #[.pointer (some ⟨s, 0, none⟩)] w fun e w' => ∃ b, e = .returned (.pointer (some ⟨b, 0, none⟩)) ∧ Below w.heap.size w w' := by
  obtain ⟨_, A, c, hv, sv, rv, lv, h, hp⟩ := h
  have HX := Aside0.mk h
  clear h
  rcases hp with ⟨k, b, rfl, _, lb, p⟩ | ⟨k, b, rfl, _, _, _, lb, p⟩ | ⟨k, b, rfl⟩
  · have HK := Aside0.mk k
    have HP := Aside0.mk p
    clear k p
    go_enter Tryz.func108, Tryz.ntmps108
    go_wp2_with (first
      | (go_at_call 109; go_must (refine (stateKind _ s A c n _ _ _ _ HX.out).mono ?_; rw [HK.out]; rintro e w1 ⟨rfl, h⟩; have HB := Aside0.mk h; obtain ⟨_, _, m14, _, _, _⟩ := sc_cells (blk_below HX.out h); clear h))
      | (go_at_call 127; go_must (refine (homeLinks _ b lb (pw_cell_below HB.out HP.out)).mono ?_; rintro e w2 ⟨rfl, rfl⟩)))
    go_ret
    exact ⟨_, rfl, HB.out⟩
  · have HK := Aside0.mk k
    have HP := Aside0.mk p
    clear k p
    go_enter Tryz.func108, Tryz.ntmps108
    go_wp2_with (first
      | (go_at_call 109; go_must (refine (stateKind _ s A c n _ _ _ _ HX.out).mono ?_; rw [HK.out]; rintro e w1 ⟨rfl, h⟩; have HB := Aside0.mk h; obtain ⟨_, _, _, m15, _, _⟩ := sc_cells (blk_below HX.out h); clear h))
      | (go_at_call 128; go_must (refine (shardLinks _ b lb (pw_cell_below HB.out HP.out)).mono ?_; rintro e w2 ⟨rfl, rfl⟩)))
    go_ret
    exact ⟨_, rfl, HB.out⟩
  · have HK := Aside0.mk k
    clear k
    go_enter Tryz.func108, Tryz.ntmps108
    go_wp2_with (first
      | (go_at_call 109; go_must (refine (stateKind _ s A c n _ _ _ _ HX.out).mono ?_; rw [HK.out]; rintro e w1 ⟨rfl, h⟩; have HB := Aside0.mk h; obtain ⟨_, _, _, _, _, m17⟩ := sc_cells (blk_below HX.out h); clear h)))
    go_ret
    exact ⟨_, rfl, HB.out⟩
set_option maxHeartbeats 8000000 in
set_option maxRecDepth 100000 in
theorem stateMade (w : World) (a s : Nat) (n : Int) (h : StateP w a s n) :
    Calls Tryz.prog 91 #[.pointer (some ⟨s, 0, none⟩)] w fun e w' => e = .returned (.bool true) ∧ Below w.heap.size w w' := by
  have HS := Aside0.mk h
  have HB := Aside0.mk (Below.refl w.heap.size w)
  obtain ⟨_, A, c, hv, sv, rv, lv, h, hp⟩ := h
  have HX := Aside0.mk h
  clear h
  rcases hp with ⟨k, b, rfl, _⟩ | ⟨k, b, rfl, _, ⟨pb, p⟩, ⟨tb, t⟩, _⟩ | ⟨k, b, rfl⟩
  · have HK := Aside0.mk k
    clear k
    go_enter Tryz.func91, Tryz.ntmps91
    go_wp2_with (first
      | (go_at_call 108; go_must (refine (stateLinks _ a s n (HS.out.below HB.out)).mono ?_; rintro e w1 ⟨lb, rfl, h⟩; have HB1 := Aside0.mk (below_step HB.out h); clear h HB; have HB := HB1; clear HB1))
      | (go_at_call 109; go_must (refine (stateKind _ s A c n _ _ _ _ (blk_below HX.out HB.out)).mono ?_; rw [HK.out]; rintro e w1 ⟨rfl, h⟩; have HB1 := Aside0.mk (below_step HB.out h); clear h HB; have HB := HB1; clear HB1))
      | (go_at_call 110; go_must (refine (stateHome _ s b (sc_cells (blk_below HX.out HB.out)).2.2.1).mono ?_; rintro e w2 ⟨rfl, rfl⟩)))
    go_ret
    exact ⟨rfl, HB.out⟩
  · have HK := Aside0.mk k
    have HP := Aside0.mk p
    have HT := Aside0.mk t
    clear k p t
    go_enter Tryz.func91, Tryz.ntmps91
    go_wp2_with (first
      | (go_at_call 108; go_must (refine (stateLinks _ a s n (HS.out.below HB.out)).mono ?_; rintro e w1 ⟨lb, rfl, h⟩; have HB1 := Aside0.mk (below_step HB.out h); clear h HB; have HB := HB1; clear HB1))
      | (go_at_call 109; go_must (refine (stateKind _ s A c n _ _ _ _ (blk_below HX.out HB.out)).mono ?_; rw [HK.out]; rintro e w1 ⟨rfl, h⟩; have HB1 := Aside0.mk (below_step HB.out h); clear h HB; have HB := HB1; clear HB1))
      | (go_at_call 111; go_must (refine (stateShard _ s b (sc_cells (blk_below HX.out HB.out)).2.2.2.1).mono ?_; rintro e w2 ⟨rfl, rfl⟩))
      | (go_at_call 112; go_must (refine (shardPeers _ b pb (pw_cell_below HB.out HP.out)).mono ?_; rintro e w2 ⟨rfl, rfl⟩))
      | (go_at_call 113; go_must (refine (shardStore _ b tb (pw_cell_below HB.out HT.out)).mono ?_; rintro e w2 ⟨rfl, rfl⟩)))
    go_ret
    exact ⟨rfl, HB.out⟩
  · have HK := Aside0.mk k
    clear k
    go_enter Tryz.func91, Tryz.ntmps91
    go_wp2_with (first
      | (go_at_call 108; go_must (refine (stateLinks _ a s n (HS.out.below HB.out)).mono ?_; rintro e w1 ⟨lb, rfl, h⟩; have HB1 := Aside0.mk (below_step HB.out h); clear h HB; have HB := HB1; clear HB1))
      | (go_at_call 109; go_must (refine (stateKind _ s A c n _ _ _ _ (blk_below HX.out HB.out)).mono ?_; rw [HK.out]; rintro e w1 ⟨rfl, h⟩; have HB1 := Aside0.mk (below_step HB.out h); clear h HB; have HB := HB1; clear HB1)))
    go_ret
    exact ⟨rfl, HB.out⟩
/-- A node that is made: its log's generation is 1, its state is made; all from block a on. -/
def NodeP (w : World) (a x : Nat) (n : Int) : Prop :=
  a ≤ x ∧ ∃ gl b s v, a ≤ gl ∧ a ≤ b ∧ w.heap[x]? = some (.cells #[.pointer (some ⟨gl, 0, none⟩), .pointer (some ⟨s, 0, none⟩), v] 111 (0, 0)) ∧ w.cell? ⟨gl, 1, none⟩ = some (.int .u32 1) ∧ StateP w b s n
theorem NodeP.same {w w' : World} {a x : Nat} {n : Int} (h : NodeP w a x n) (hs : ∀ k, a ≤ k → k < w.heap.size → w'.heap[k]? = w.heap[k]?) : NodeP w' a x n := by
  obtain ⟨ha, gl, b, s, v, hg, hb, h1, h2, h3⟩ := h
  refine ⟨ha, gl, b, s, v, hg, hb, (hs x ha (blk_lt h1)).trans h1, ?_, h3.same fun k hk => hs k (Nat.le_trans hb hk)⟩
  rw [← h2]
  simp only [World.cell?, hs gl hg (World.block_lt_of_cell? w _ h2)]
theorem NodeP.below {w w' : World} {a x : Nat} {n : Int} (h : NodeP w a x n) (hb : Below w.heap.size w w') : NodeP w' a x n := h.same fun k _ hk => hb.block k hk
theorem NodeP.far {w : World} {a x : Nat} {n : Int} (h : NodeP w a x n) {b j : Nat} {u : Value} (hb : b < a) : NodeP (w.setCell ⟨b, j, none⟩ u) a x n :=
  h.same fun k hk _ => Below.heap_setCell w ⟨b, j, none⟩ u k (by show k ≠ b; omega)
theorem NodeP.mono {w : World} {a b x : Nat} {n : Int} (h : NodeP w a x n) (hb : b ≤ a) : NodeP w b x n := by
  obtain ⟨ha, gl, c, s, v, hg, hc, h⟩ := h
  exact ⟨Nat.le_trans hb ha, gl, c, s, v, Nat.le_trans hb hg, Nat.le_trans hb hc, h⟩
set_option maxHeartbeats 8000000 in
set_option maxRecDepth 100000 in
theorem nodeMade (w : World) (a0 x : Nat) (n : Int) (h : NodeP w a0 x n) :
    Calls Tryz.prog 72 #[.pointer (some ⟨x, 0, none⟩)] w fun e w' => e = .returned (.bool true) ∧ Below w.heap.size w w' := by
  obtain ⟨_, gl, a, s, v, _, _, h1, _, h3⟩ := h
  have HX := Aside0.mk h1
  have HS := Aside0.mk h3
  clear h1 h3
  go_enter Tryz.func72, Tryz.ntmps72
  go_wp2_with (first
    | (go_at_call 17; go_must (refine (nodeLog _ x gl (cell_of_row _ x 0 _ _ _ HX.out)).mono ?_; rintro e w2 ⟨rfl, rfl⟩))
    | (go_at_call 92; go_must (refine (nodeState _ x s (cell_of_row _ x 1 _ _ _ HX.out)).mono ?_; rintro e w2 ⟨rfl, rfl⟩))
    | (go_at_call 91; go_must (refine (stateMade _ a s n HS.out).mono ?_; rintro e w2 ⟨rfl, h⟩; have HB := Aside0.mk h; clear h)))
  go_ret
  exact ⟨rfl, HB.out⟩
end Go.Proofs.YtmapdfommjcebaaGreat.Own
namespace Go.Proofs.YtmapdfommjcebaaGreat.Own
open Go.RowKit Go.Proofs.YtmapdfommjcebaaGreatW.PrintWords Go.Proofs.YtmapdfommjcebaaGreatW.PrintLast Go.Proofs.YtmapdfommjcebaaGreatW.PrintMore
open PTopWiped
set_option maxHeartbeats 8000000 in
set_option maxRecDepth 100000 in
theorem relayNew (w : World) (A : Addr) (c : Nat) (n : Int) (hC : Kd.C k142 w (some A) 5 tes) (hc : 5 ≤ c) (hn : n = 4 ∨ n = 5) :
    Calls Tryz.prog 106 #[.agg #[Value.int .i64 1, .int .i64 2, .int .i64 2, .int .i64 3, .int .i64 3, .int .i64 1, .int .i64 0, .int .i64 0, .int .i64 0, .int .i64 0, .int .i64 0, .int .i64 0, .slice (some A) 5 c], .int .i64 n] w fun e w' => ∃ g, e = .returned (.tuple #[.pointer (some ⟨g, 0, none⟩), .int .i64 0]) ∧ Below w.heap.size w w' := by
  have HC := Aside0.mk hC
  have HX := Aside0.mk (heap_at (w := w) (o := .cells #[Value.int .i64 1, .int .i64 2, .int .i64 2, .int .i64 3, .int .i64 3, .int .i64 1, .int .i64 0, .int .i64 0, .int .i64 0, .int .i64 0, .int .i64 0, .int .i64 0, .slice (some A) 5 c] 99) (g := w.heap.size) rfl)
  have HB := Aside0.mk (below_alloc (Below.refl w.heap.size w) (.cells #[Value.int .i64 1, .int .i64 2, .int .i64 2, .int .i64 3, .int .i64 3, .int .i64 1, .int .i64 0, .int .i64 0, .int .i64 0, .int .i64 0, .int .i64 0, .int .i64 0, .slice (some A) 5 c] 99))
  have HCC := Aside0.mk hc
  have HN := Aside0.mk hn
  clear hC hc hn
  obtain ⟨m0, m1, m2, m3, m4, m5, m6, m7, m8, m9, m10, m11, m12⟩ := tv_cells HX.out
  go_enter Tryz.func106, Tryz.ntmps106
  go_wp2_with (first
    | (go_at_call 65; go_must (refine (Right_tree _ A c (Kd.C_below HC.out HB.out) HCC.out).mono ?_; rintro e w1 ⟨rfl, h⟩; have HB1 := Aside0.mk (below_step HB.out h); have HX1 := Aside0.mk (blk_below HX.out h); clear h HB HX m0 m1 m2 m3 m4 m5 m6 m7 m8 m9 m10 m11 m12; have HB := HB1; have HX := HX1; clear HB1 HX1; obtain ⟨m0, m1, m2, m3, m4, m5, m6, m7, m8, m9, m10, m11, m12⟩ := tv_cells HX.out))
    | (go_at_call 66; go_must (refine (Nodes_calls _ A c 3 (by decide) (by decide)).mono ?_; rw [nodes_three]; rintro e w1 ⟨v, rfl, h1, h⟩; obtain ⟨gl, cap, rfl, hcap, _, hg⟩ := OwnI.form h1 (by simp); have c0 := hg 0 4 rfl; have c1 := hg 1 5 rfl; clear hg h1 hcap; have HB1 := Aside0.mk (below_step HB.out h); have HX1 := Aside0.mk (blk_below HX.out h); clear h HB HX m0 m1 m2 m3 m4 m5 m6 m7 m8 m9 m10 m11 m12; have HB := HB1; have HX := HX1; clear HB1 HX1; obtain ⟨m0, m1, m2, m3, m4, m5, m6, m7, m8, m9, m10, m11, m12⟩ := tv_cells HX.out)))
  obtain ⟨W, hW⟩ : ∃ W, W = w1 := ⟨_, rfl⟩
  have HWW := Aside0.mk hW
  clear hW
  have G0 := Aside0.mk c0
  have G1 := Aside0.mk c1
  clear c0 c1 m0 m1 m2 m3 m4 m5 m6 m7 m8 m9 m10 m11 m12
  go_loopw [14] (fun v14 wr => ∃ (i : Nat), v14 = .int .i64 i ∧ (i = 0 ∨ (i = 1 ∧ n = 5)) ∧ Aside0 (wr = W)) (fun v14 _ => 2 - (intOf v14).toNat)
  case atStart => exact ⟨0, rfl, .inl rfl, ⟨HWW.out.symm⟩⟩
  case round =>
    obtain ⟨i, rfl, hi, HR⟩ := hrel
    obtain ⟨hR⟩ := HR
    rw [HWW.out] at hR
    subst hR
    obtain ⟨m0, m1, m2, m3, m4, m5, m6, m7, m8, m9, m10, m11, m12⟩ := tv_cells HX.out
    have c0 := G0.out
    have c1 := G1.out
    rcases hi with rfl | ⟨rfl, rfl⟩
    · rcases HN.out with rfl | rfl
      · go_wp2_with (first
          | (go_at_call 67; go_must (refine (CloneE_calls _ A c (Kd.C_below HC.out HB.out)).mono ?_; rintro e w3 ⟨gs, cap, rfl, _, _, h⟩; have HB1 := Aside0.mk (below_step HB.out h); have HX1 := Aside0.mk (blk_below HX.out h); clear h HB HX m0 m1 m2 m3 m4 m5 m6 m7 m8 m9 m10 m11 m12; have HB := HB1; have HX := HX1; clear HB1 HX1; obtain ⟨m0, m1, m2, m3, m4, m5, m6, m7, m8, m9, m10, m11, m12⟩ := tv_cells HX.out; clear c0 c1; have HB2 := Aside0.mk (below_set (j := 12) (v := .slice (some ⟨gs, 0, none⟩) 5 cap) HB.out (Nat.le_refl _)); have HX2 := Aside0.mk (tv_put (B := ⟨gs, 0, none⟩) (d := cap) HX.out); have f12 := blk_frozen HX.out 12; clear HB HX)))
        go_ret2
        exact ⟨_, rfl, below_alloc HB2.out _⟩
      · go_wp2_with fail
        go_roundw
        case rel => exact ⟨1, by go_num, .inr (by simp), ⟨HWW.out.symm⟩⟩
        case measure => simp [intOf]
    · go_wp2_with (first
        | (go_at_call 67; go_must (refine (CloneE_calls _ A c (Kd.C_below HC.out HB.out)).mono ?_; rintro e w3 ⟨gs, cap, rfl, _, _, h⟩; have HB1 := Aside0.mk (below_step HB.out h); have HX1 := Aside0.mk (blk_below HX.out h); clear h HB HX m0 m1 m2 m3 m4 m5 m6 m7 m8 m9 m10 m11 m12; have HB := HB1; have HX := HX1; clear HB1 HX1; obtain ⟨m0, m1, m2, m3, m4, m5, m6, m7, m8, m9, m10, m11, m12⟩ := tv_cells HX.out; clear c0 c1; have HB2 := Aside0.mk (below_set (j := 12) (v := .slice (some ⟨gs, 0, none⟩) 5 cap) HB.out (Nat.le_refl _)); have HX2 := Aside0.mk (tv_put (B := ⟨gs, 0, none⟩) (d := cap) HX.out); have f12 := blk_frozen HX.out 12; clear HB HX)))
      go_ret2
      exact ⟨_, rfl, below_alloc HB2.out _⟩
end Go.Proofs.YtmapdfommjcebaaGreat.Own
namespace Go.Proofs.YtmapdfommjcebaaGreat.Own
open Go.RowKit Go.Proofs.YtmapdfommjcebaaGreatW.PrintWords Go.Proofs.YtmapdfommjcebaaGreatW.PrintLast Go.Proofs.YtmapdfommjcebaaGreatW.PrintMore
open PTopWiped
def HC0 (A : Addr) (c : Nat) (n : Int) (gl : Nat) : Array Value := #[Value.int IntKind.i64 1, Value.int IntKind.i64 2, Value.int IntKind.i64 2, Value.int IntKind.i64 3, Value.int IntKind.i64 3, Value.int IntKind.i64 1, Value.int IntKind.i64 0, Value.int IntKind.i64 0, Value.int IntKind.i64 0, Value.int IntKind.i64 0, Value.int IntKind.i64 0, Value.int IntKind.i64 0, Value.slice (some A) 5 c, Value.int IntKind.i64 n, Value.int IntKind.u64 0, Value.pointer (some ⟨gl, 0, none⟩), Value.pointer none, Value.pointer none, Value.pointer none, Value.pointer none, Value.pointer none, Value.pointer none, Value.pointer none, Value.pointer none, Value.pointer none, Value.pointer none, Value.pointer none, Value.pointer none, Value.pointer none, Value.pointer none, Value.pointer none, Value.pointer none, Value.pointer none, Value.pointer none, Value.pointer none, Value.pointer none, Value.pointer none, Value.pointer none, Value.pointer none, Value.pointer none]
/-- A home's block: its links are there, and so are 24 cells for its carts. -/
def HomeB (w : World) (g gl : Nat) : Prop := ∃ cs : Array Value, w.heap[g]? = some (.cells cs 213 (0, 0)) ∧ cs.size = 40 ∧ cs[15]? = some (.pointer (some ⟨gl, 0, none⟩))
theorem HomeB.below {w w' : World} {g gl : Nat} (h : HomeB w g gl) (hb : Below w.heap.size w w') : HomeB w' g gl := by
  obtain ⟨cs, h, h1, h2⟩ := h
  exact ⟨cs, blk_below h hb, h1, h2⟩
theorem HomeB.at_ {w : World} {g gl : Nat} (h : HomeB w g gl) (i : Nat) (hi : i < 40) : (∃ v, w.cell? ⟨g, i, none⟩ = some v) ∧ w.frozen? ⟨g, i, none⟩ = false := by
  obtain ⟨cs, h, h1, _⟩ := h
  exact ⟨⟨cs[i]'(by omega), by rw [cell_of_row w g i _ _ _ h]; exact Array.getElem?_eq_getElem (by omega)⟩, blk_frozen h i⟩
theorem HomeB.put {w : World} {g gl : Nat} (h : HomeB w g gl) (i : Nat) (hi : 15 < i) (u : Value) : HomeB (w.setCell ⟨g, i, none⟩ u) g gl := by
  obtain ⟨cs, h, h1, h2⟩ := h
  refine ⟨_, blk_put h i u rfl, by simpa using h1, ?_⟩
  rw [Array.getElem?_setIfInBounds_ne (by omega)]
  exact h2
set_option maxHeartbeats 8000000 in
set_option maxRecDepth 100000 in
theorem homeNew (w : World) (A : Addr) (c : Nat) (n : Int) (hC : Kd.C k142 w (some A) 5 tes) (hc : 5 ≤ c) (hn : n = 1 ∨ n = 6) :
    Calls Tryz.prog 104 #[.agg #[Value.int .i64 1, .int .i64 2, .int .i64 2, .int .i64 3, .int .i64 3, .int .i64 1, .int .i64 0, .int .i64 0, .int .i64 0, .int .i64 0, .int .i64 0, .int .i64 0, .slice (some A) 5 c], .int .i64 n] w fun e w' => ∃ g, e = .returned (.tuple #[.pointer (some ⟨g, 0, none⟩), .int .i64 0]) ∧ w.heap.size ≤ g ∧ PtrAt w' g 15 ∧ Below w.heap.size w w' := by
  have HC := Aside0.mk hC
  have HK := Aside0.mk (show tKind n = 1 by rcases hn with rfl | rfl <;> kernel_rfl)
  have HX := Aside0.mk (heap_at (w := w) (o := .cells #[Value.int .i64 1, .int .i64 2, .int .i64 2, .int .i64 3, .int .i64 3, .int .i64 1, .int .i64 0, .int .i64 0, .int .i64 0, .int .i64 0, .int .i64 0, .int .i64 0, .slice (some A) 5 c] 99) (g := w.heap.size) rfl)
  have HB := Aside0.mk (below_alloc (Below.refl w.heap.size w) (.cells #[Value.int .i64 1, .int .i64 2, .int .i64 2, .int .i64 3, .int .i64 3, .int .i64 1, .int .i64 0, .int .i64 0, .int .i64 0, .int .i64 0, .int .i64 0, .int .i64 0, .slice (some A) 5 c] 99))
  have HCC := Aside0.mk hc
  have HN := Aside0.mk hn
  have h1 : 1 ≤ n ∧ n ≤ 12 := by omega
  have HN1 := Aside0.mk h1
  clear hC hc hn h1
  obtain ⟨m0, m1, m2, m3, m4, m5, m6, m7, m8, m9, m10, m11, m12⟩ := tv_cells HX.out
  go_enter Tryz.func104, Tryz.ntmps104
  go_wp2_with (first
    | (go_at_call 65; go_must (refine (Right_tree _ A c (Kd.C_below HC.out HB.out) HCC.out).mono ?_; rintro e w1 ⟨rfl, h⟩; have HB1 := Aside0.mk (below_step HB.out h); have HX1 := Aside0.mk (blk_below HX.out h); clear h HB HX m0 m1 m2 m3 m4 m5 m6 m7 m8 m9 m10 m11 m12; have HB := HB1; have HX := HX1; clear HB1 HX1; obtain ⟨m0, m1, m2, m3, m4, m5, m6, m7, m8, m9, m10, m11, m12⟩ := tv_cells HX.out))
    | (go_at_call 69; go_must (refine (Kind_calls _ A c n).mono ?_; rw [HK.out]; rintro e w2 ⟨rfl, h⟩; have HB1 := Aside0.mk (below_step HB.out h); have HX1 := Aside0.mk (blk_below HX.out h); clear h HB HX m0 m1 m2 m3 m4 m5 m6 m7 m8 m9 m10 m11 m12; have HB := HB1; have HX := HX1; clear HB1 HX1; obtain ⟨m0, m1, m2, m3, m4, m5, m6, m7, m8, m9, m10, m11, m12⟩ := tv_cells HX.out))
    | (go_at_call 67; go_must (refine (CloneE_calls _ A c (Kd.C_below HC.out HB.out)).mono ?_; rintro e w3 ⟨gs, cap, rfl, _, _, h⟩; have HB1 := Aside0.mk (below_step HB.out h); have HX1 := Aside0.mk (blk_below HX.out h); clear h HB HX m0 m1 m2 m3 m4 m5 m6 m7 m8 m9 m10 m11 m12; have HB := HB1; have HX := HX1; clear HB1 HX1; obtain ⟨m0, m1, m2, m3, m4, m5, m6, m7, m8, m9, m10, m11, m12⟩ := tv_cells HX.out; have HB2 := Aside0.mk (below_set (j := 12) (v := .slice (some ⟨gs, 0, none⟩) 5 cap) HB.out (Nat.le_refl _)); have HX2 := Aside0.mk (tv_put (B := ⟨gs, 0, none⟩) (d := cap) HX.out); have f12 := blk_frozen HX.out 12; clear HB HX))
    | (go_at_call 107; go_must (refine (linksNew _ n HN1.out.1 HN1.out.2).mono ?_; rintro e w5 ⟨gl, rfl, h⟩; have HB := Aside0.mk (below_step HB2.out h); have HX := Aside0.mk (blk_below HX2.out h); clear h HB2 HX2 f12 m0 m1 m2 m3 m4 m5 m6 m7 m8 m9 m10 m11 m12; obtain ⟨m0, m1, m2, m3, m4, m5, m6, m7, m8, m9, m10, m11, m12⟩ := tv_cells HX.out)))
  have HB1 := Aside0.mk (below_alloc HB.out (.cells (HC0 ⟨gs, 0, none⟩ cap n gl) 213))
  have HX1 := Aside0.mk (blk_alloc HX.out (.cells (HC0 ⟨gs, 0, none⟩ cap n gl) 213))
  have HG := Aside0.mk (show w.heap.size < w5.heap.size from blk_lt HX.out)
  obtain ⟨gh, hgh⟩ : ∃ gh, gh = w5.heap.size := ⟨_, rfl⟩
  have HH := Aside0.mk (show HomeB (w5.alloc (.cells (HC0 ⟨gs, 0, none⟩ cap n gl) 213)) gh gl from ⟨_, heap_at hgh, by rfl, by rfl⟩)
  rw [← hgh] at HG ⊢
  clear hgh HB HX m0 m1 m2 m3 m4 m5 m6 m7 m8 m9 m10 m11 m12
  go_loopw [35] (fun v35 wr => ∃ (i : Nat), v35 = .int .i64 i ∧ i ≤ 12 ∧ Aside0 (Below w.heap.size w wr) ∧ Aside0 (wr.heap[w.heap.size]? = some (.cells #[Value.int .i64 1, .int .i64 2, .int .i64 2, .int .i64 3, .int .i64 3, .int .i64 1, .int .i64 0, .int .i64 0, .int .i64 0, .int .i64 0, .int .i64 0, .int .i64 0, .slice (some ⟨gs, 0, none⟩) 5 cap] 99 (0, 0))) ∧ Aside0 (HomeB wr gh gl)) (fun v35 _ => 12 - (intOf v35).toNat)
  case atStart => exact ⟨0, rfl, by omega, HB1, HX1, HH⟩
  case round =>
    clear HB1 HX1 HH
    obtain ⟨i, rfl, hi, HB, HX, HH⟩ := hrel
    obtain ⟨m0, m1, m2, m3, m4, m5, m6, m7, m8, m9, m10, m11, m12⟩ := tv_cells HX.out
    by_cases hlt : i < 12
    · have hw : IntKind.i64.wrap ((i : Int) + 1) = (i : Int) + 1 := IntWalk.i64_in _ ⟨by omega, by omega⟩
      go_wp2_with (first
        | (go_at_call 121; go_must (refine (other_calls _ ⟨gs, 0, none⟩ cap n ((i : Int) + 1) HN.out (by omega) (by omega)).mono ?_; rintro e w6 ⟨rfl, h⟩; have HH1 := Aside0.mk (HH.out.below h); clear HH; have HH := HH1; clear HH1; have HB1 := Aside0.mk (below_step HB.out h); have HX1 := Aside0.mk (blk_below HX.out h); clear h HB HX m0 m1 m2 m3 m4 m5 m6 m7 m8 m9 m10 m11 m12; have HB := HB1; have HX := HX1; clear HB1 HX1)))
      go_region_with (first
        | (go_at_call 122; go_must (refine (indexNew _ ((i : Int) + 1) (by omega) (by omega)).mono ?_; rintro e w7 ⟨gi, rfl, h⟩; have HH1 := Aside0.mk (HH.out.below ((Below.refl _ _).drew.trans h)); clear HH; have HH := HH1; clear HH1; have HB1 := Aside0.mk (below_step HB.out.drew h); have HX1 := Aside0.mk (blk_below (blk_drew HX.out) h); clear HB HX h; obtain ⟨⟨v0, s0⟩, s1⟩ := HH.out.at_ (16 + i * 2) (by omega))))
      have HB1 := Aside0.mk (below_set (j := 16 + i * 2) (v := .pointer (some ⟨gi, 0, none⟩)) HB1.out (Nat.le_of_lt HG.out))
      have HX2 := Aside0.mk (blk_far HX1.out (p := ⟨gh, 16 + i * 2, none⟩) (Nat.ne_of_lt HG.out) (.pointer (some ⟨gi, 0, none⟩)))
      have HH1 := Aside0.mk (HH.out.put (16 + i * 2) (by omega) (.pointer (some ⟨gi, 0, none⟩)))
      clear HH HX1 s0 s1
      have HM := Aside0.mk (show (1 ≤ n ∧ n ≤ 12) ∧ 1 ≤ 7 - n ∧ 7 - n ≤ 12 ∧ n ≠ 7 - n by have := HN.out; omega)
      obtain ⟨W, hW⟩ : ∃ W, W = w7.setCell ⟨gh, 16 + i * 2, none⟩ (.pointer (some ⟨gi, 0, none⟩)) := ⟨_, rfl⟩
      rw [← hW] at HB1 HX2 HH1 ⊢
      clear hW
      go_wp2_with fail
      go_region_with (first
        | (go_at_call 123; go_must (refine (cutsNew _ n (7 - n) HM.out.1.1 HM.out.1.2 HM.out.2.1 HM.out.2.2.1 HM.out.2.2.2).mono ?_; rintro e w8 ⟨gt, rfl, h⟩; have HH := Aside0.mk (HH1.out.below ((Below.refl _ _).drew.trans h)); have HB := Aside0.mk (below_step HB1.out.drew h); have HX := Aside0.mk (blk_below (blk_drew HX2.out) h); clear HB1 HX2 HH1 h; obtain ⟨⟨v1, s2⟩, s3⟩ := HH.out.at_ (16 + i * 2 + 1) (by omega))))
      have HB1 := Aside0.mk (below_set (j := 16 + i * 2 + 1) (v := .pointer (some ⟨gt, 0, none⟩)) HB.out (Nat.le_of_lt HG.out))
      have HX1 := Aside0.mk (blk_far HX.out (p := ⟨gh, 16 + i * 2 + 1, none⟩) (Nat.ne_of_lt HG.out) (.pointer (some ⟨gt, 0, none⟩)))
      have HH1 := Aside0.mk (HH.out.put (16 + i * 2 + 1) (by omega) (.pointer (some ⟨gt, 0, none⟩)))
      clear HH HX HB s2 s3
      go_wp2_with fail
      go_roundw
      case rel => exact ⟨i + 1, by go_num, by omega, HB1, HX1, HH1⟩
      case measure => simp [intOf]; omega
    · have he : i = 12 := by omega
      subst he
      go_wp2_with fail
      go_ret2
      obtain ⟨cs, h, _, h15⟩ := HH.out
      exact ⟨_, rfl, Nat.le_of_lt HG.out, blk_ptr h h15, HB.out⟩
end Go.Proofs.YtmapdfommjcebaaGreat.Own
