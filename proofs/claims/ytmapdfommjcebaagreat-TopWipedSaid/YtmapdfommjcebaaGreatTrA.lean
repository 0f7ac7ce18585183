/- The fixed tree: its kinds, and which kinds may be. The fixed tree: the function literals, and what looks for one that answers. The fixed tree: to which nodes a node has an edge. The fixed tree: six nodes are sorted. -/
import Derived.Test.YtmapdfommjcebaaGreatHr
import Derived.Test.YtmapdfommjcebaaGreatPTopWipedx2
import Derived.Laws.Rows
import Derived.Test.YtmapdfommjcebaaGreatPTopWipedx3
namespace Go.Proofs.YtmapdfommjcebaaGreat.Own
open Go.RowKit Go.Proofs.YtmapdfommjcebaaGreatW.PrintWords Go.Proofs.YtmapdfommjcebaaGreatW.PrintLast Go.Proofs.YtmapdfommjcebaaGreatW.PrintMore
def tks : List Int := [1, 2, 2, 3, 3, 1, 0, 0, 0, 0, 0, 0]
def tKind (n : Int) : Int := if n < 1 then 0 else if 12 < n then 0 else tks.getD (n - 1).toNat 0
theorem tks_at (A : Addr) (c : Nat) (i : Nat) (hi : i < 12) : (#[Value.int .i64 1, .int .i64 2, .int .i64 2, .int .i64 3, .int .i64 3, .int .i64 1, .int .i64 0, .int .i64 0, .int .i64 0, .int .i64 0, .int .i64 0, .int .i64 0, .slice (some A) 5 c])[i]? = some (.int .i64 (tks.getD i 0)) := by
  match i, hi with
  | 0, _ => rfl
  | 1, _ => rfl
  | 2, _ => rfl
  | 3, _ => rfl
  | 4, _ => rfl
  | 5, _ => rfl
  | 6, _ => rfl
  | 7, _ => rfl
  | 8, _ => rfl
  | 9, _ => rfl
  | 10, _ => rfl
  | 11, _ => rfl
  | n + 12, h => omega
set_option maxHeartbeats 8000000 in
set_option maxRecDepth 100000 in
theorem Kind_calls (w : World) (A : Addr) (c : Nat) (n : Int) :
    Calls Tryz.prog 69 #[.agg #[Value.int .i64 1, .int .i64 2, .int .i64 2, .int .i64 3, .int .i64 3, .int .i64 1, .int .i64 0, .int .i64 0, .int .i64 0, .int .i64 0, .int .i64 0, .int .i64 0, .slice (some A) 5 c], .int .i64 n] w fun e w' => e = .returned (.int .i64 (tKind n)) ∧ Below w.heap.size w w' := by
  by_cases h1 : n < 1
  · have e : tKind n = 0 := by simp [tKind, h1]
    rw [e]
    go_enter Tryz.func69, Tryz.ntmps69
    go_wp2
    go_ret
    exact ⟨rfl, below_alloc (Below.refl _ _) _⟩
  · by_cases h2 : 12 < n
    · have e : tKind n = 0 := by simp [tKind, h1, h2]
      rw [e]
      have h2' : (12 : Int) < n := h2
      go_enter Tryz.func69, Tryz.ntmps69
      go_wp2
      go_ret
      exact ⟨rfl, below_alloc (Below.refl _ _) _⟩
    · have e : tKind n = tks.getD (n - 1).toNat 0 := by simp [tKind, h1, h2]
      rw [e]
      have hw : wrap64 (n - 1) = n - 1 := by unfold wrap64; omega
      have hb : 0 ≤ n - 1 ∧ n - 1 < 12 := by omega
      have hc := tks_at A c (n.toNat - 1) (by omega)
      have ht : (n - 1).toNat = n.toNat - 1 := by omega
      rw [ht]
      clear ht
      go_enter Tryz.func69, Tryz.ntmps69
      go_wp2
      go_ret
      exact ⟨rfl, below_alloc (Below.refl _ _) _⟩
theorem tv_cells {w : World} {g : Nat} {A : Addr} {c : Nat} {t : TypeId} {f : Nat × Nat} (h : w.heap[g]? = some (.cells #[Value.int .i64 1, .int .i64 2, .int .i64 2, .int .i64 3, .int .i64 3, .int .i64 1, .int .i64 0, .int .i64 0, .int .i64 0, .int .i64 0, .int .i64 0, .int .i64 0, .slice (some A) 5 c] t f)) : w.cell? ⟨g, 0, none⟩ = some (.int .i64 1) ∧ w.cell? ⟨g, 1, none⟩ = some (.int .i64 2) ∧ w.cell? ⟨g, 2, none⟩ = some (.int .i64 2) ∧ w.cell? ⟨g, 3, none⟩ = some (.int .i64 3) ∧ w.cell? ⟨g, 4, none⟩ = some (.int .i64 3) ∧ w.cell? ⟨g, 5, none⟩ = some (.int .i64 1) ∧ w.cell? ⟨g, 6, none⟩ = some (.int .i64 0) ∧ w.cell? ⟨g, 7, none⟩ = some (.int .i64 0) ∧ w.cell? ⟨g, 8, none⟩ = some (.int .i64 0) ∧ w.cell? ⟨g, 9, none⟩ = some (.int .i64 0) ∧ w.cell? ⟨g, 10, none⟩ = some (.int .i64 0) ∧ w.cell? ⟨g, 11, none⟩ = some (.int .i64 0) ∧ w.cell? ⟨g, 12, none⟩ = some (.slice (some A) 5 c) :=
  ⟨cell_of_row w g 0 _ t f h, cell_of_row w g 1 _ t f h, cell_of_row w g 2 _ t f h, cell_of_row w g 3 _ t f h, cell_of_row w g 4 _ t f h, cell_of_row w g 5 _ t f h, cell_of_row w g 6 _ t f h, cell_of_row w g 7 _ t f h, cell_of_row w g 8 _ t f h, cell_of_row w g 9 _ t f h, cell_of_row w g 10 _ t f h, cell_of_row w g 11 _ t f h, cell_of_row w g 12 _ t f h⟩
/-! Whole numbers of the call's own. -/
def OwnI (w : World) (base : Nat) (v : Value) (xs : List Int) : Prop := w.ownsRow base 3 1 v xs.length (nums .i64 xs)
theorem OwnI.below {w w1 : World} {base : Nat} {v : Value} {xs : List Int} (h : OwnI w base v xs) (hb : Below w.heap.size w w1) : OwnI w1 base v xs := pw_own_below h hb
theorem OwnI.slice {w : World} {base : Nat} {v : Value} {xs : List Int} (h : OwnI w base v xs) : ∃ A c, v = .slice A xs.length c ∧ xs.length ≤ c ∧ (Kd.int .i64).C w A xs.length xs := by
  obtain ⟨A, c, rfl, hr⟩ := own_reads h
  exact ⟨A, c, rfl, own_cap h, Kd.C_of_reads (d := (0 : Int)) (h1 := fun _ => rfl) hr⟩
theorem own_nilI (W : World) (base : Nat) : OwnI W base (.slice none 0 0) [] := ⟨rfl, .inl ⟨rfl, rfl⟩⟩
theorem OwnI.ne {w : World} {base g : Nat} {v : Value} {xs : List Int} {cs : Array Value} {t : TypeId} {f : Nat × Nat} (h : OwnI w base v xs) (hg : w.heap[g]? = some (.cells cs t f)) (ht : t ≠ 3) : some g ≠ v.ownBlock := by
  intro e
  obtain ⟨_, h | ⟨b, cap, cells, rfl, _, hh, _⟩⟩ := h
  · rw [h.1] at e
    simp [Value.ownBlock] at e
  · simp only [Value.ownBlock, Option.some.injEq] at e
    subst e
    rw [hg] at hh
    injection hh with hh
    injection hh with _ h2 _
    exact ht h2
theorem reads_of_CI {w : World} {A : Option Addr} {n : Nat} {xs : List Int} (h : (Kd.int .i64).C w A n xs) : ReadsInt w .i64 A n xs := Kd.reads_of_C (d := (0 : Int)) h
theorem C_oneI (w : World) (x : Int) : (Kd.int .i64).C (w.alloc (.cells #[.int .i64 x] 3)) (some ⟨w.heap.size, 0, none⟩) [x].length [x] := C_one rfl rfl
section
variable {ops : Array Oper} {rest : List Oper} {o : Oper} {a : Act} {Q : Exit → Act → World → Prop}
theorem app_int {w0 W : World} (base : Nat) (hgd : o.guard = none) (s x : Operand) (ho : o.op = .call { callee := .builtin .append, args := #[s, x], argTypes := #[138, 138] })
    (v : Value) (xs ys : List Int) (A : Option Addr) (m c : Nat) (hs : a.eval s = v) (hx : a.eval x = .slice A m c) (hm : m = ys.length)
    (HO : OwnI W base v xs) (HR : (Kd.int .i64).C W A ys.length ys) (HB : Below base w0 W) (hbase : base ≤ W.heap.size) (hl : xs.length + ys.length ≤ 1000000)
    (h : ∀ v1 w1, OwnI w1 base v1 (xs ++ ys) → Below base w0 w1 → W.grownBy w1 v.ownBlock → wpList Tryz.prog ops Q rest (a.put o.dst v1) w1) : wpList Tryz.prog ops Q (o :: rest) a W := by
  subst hm
  exact print_append_row base hgd s x 138 3 .i64 8 ho Tryz.underlying138 info3 (by omega) v xs ys A _ c hs hx HO (reads_of_CI HR) HB hbase (by omega) (fun v1 w1 ho hb hg _ => h v1 w1 ho hb hg)
end
theorem tKind_range (n : Int) : 0 ≤ tKind n ∧ tKind n ≤ 3 := by
  unfold tKind
  split
  · omega
  · split
    · omega
    · obtain ⟨i, hi⟩ : ∃ i, i = (n - 1).toNat := ⟨_, rfl⟩
      rw [← hi]
      have h : i < 12 := by omega
      clear hi
      revert i
      decide
set_option maxHeartbeats 8000000 in
set_option maxRecDepth 100000 in
theorem there_calls (w : World) (A : Addr) (c : Nat) (n : Int) :
    Calls Tryz.prog 86 #[.agg #[Value.int .i64 1, .int .i64 2, .int .i64 2, .int .i64 3, .int .i64 3, .int .i64 1, .int .i64 0, .int .i64 0, .int .i64 0, .int .i64 0, .int .i64 0, .int .i64 0, .slice (some A) 5 c], .int .i64 n] w fun e w' => e = .returned (.bool (decide (1 ≤ tKind n))) ∧ Below w.heap.size w w' := by
  have hk := tKind_range n
  obtain ⟨b, hb⟩ : ∃ b, b = decide (1 ≤ tKind n) := ⟨_, rfl⟩
  rw [← hb]
  have HK := Aside0.mk (show PTopWiped.tree_isKind.f (tKind n) = some b by
    unfold PTopWiped.tree_isKind.f
    rw [hb]
    by_cases h : tKind n ≥ 1
    · rw [if_pos h, decide_eq_true hk.2, decide_eq_true h]
    · rw [if_neg h, decide_eq_false h])
  clear hb hk
  go_enter Tryz.func86, Tryz.ntmps86
  go_wp2_with (first
    | (go_at_call 69; go_must (refine (Kind_calls _ A c n).mono ?_; rintro e w1 ⟨rfl, h⟩; have HB := Aside0.mk (below_step (below_alloc (Below.refl _ _) _) h); clear h))
    | (go_at_call 89; go_must (refine (PTopWiped.tree_isKind.calls _ b _ HK.out).mono ?_; rintro e w2 ⟨rfl, h⟩; have HB2 := Aside0.mk (below_step HB.out h.below); clear h HB)))
  go_ret
  exact ⟨rfl, HB2.out⟩
def nodesTo (k : Int) (i : Nat) : List Int := ((List.range i).filter (fun j : Nat => decide (tKind ((j : Int) + 1) = k))).map (fun j : Nat => (j : Int) + 1)
theorem nodesTo_yes {k : Int} {i : Nat} (h : tKind ((i : Int) + 1) = k) : nodesTo k (i + 1) = nodesTo k i ++ [(i : Int) + 1] := by
  simp [nodesTo, List.range_succ, h]
theorem nodesTo_no {k : Int} {i : Nat} (h : tKind ((i : Int) + 1) ≠ k) : nodesTo k (i + 1) = nodesTo k i := by
  simp [nodesTo, List.range_succ, h]
theorem nodesTo_len (k : Int) (i : Nat) : (nodesTo k i).length ≤ i := by
  unfold nodesTo
  rw [List.length_map]
  exact Nat.le_trans (List.length_filter_le _ _) (by simp)
set_option maxHeartbeats 8000000 in
set_option maxRecDepth 100000 in
theorem Nodes_calls (w : World) (A : Addr) (c : Nat) (k : Int) (h1 : 1 ≤ k) (h3 : k ≤ 3) :
    Calls Tryz.prog 66 #[.agg #[Value.int .i64 1, .int .i64 2, .int .i64 2, .int .i64 3, .int .i64 3, .int .i64 1, .int .i64 0, .int .i64 0, .int .i64 0, .int .i64 0, .int .i64 0, .int .i64 0, .slice (some A) 5 c], .int .i64 k] w fun e w' => ∃ v, e = .returned v ∧ OwnI w' w.heap.size v (nodesTo k 12) ∧ Below w.heap.size w w' := by
  have HK := Aside0.mk (show PTopWiped.tree_isKind.f k = some true by
    unfold PTopWiped.tree_isKind.f
    rw [if_pos h1, decide_eq_true h3])
  clear h1 h3
  have HB := Aside0.mk (below_alloc (Below.refl w.heap.size w) (.cells #[Value.int .i64 1, .int .i64 2, .int .i64 2, .int .i64 3, .int .i64 3, .int .i64 1, .int .i64 0, .int .i64 0, .int .i64 0, .int .i64 0, .int .i64 0, .int .i64 0, .slice (some A) 5 c] 99))
  have HX := Aside0.mk (heap_at (w := w) (o := .cells #[Value.int .i64 1, .int .i64 2, .int .i64 2, .int .i64 3, .int .i64 3, .int .i64 1, .int .i64 0, .int .i64 0, .int .i64 0, .int .i64 0, .int .i64 0, .int .i64 0, .slice (some A) 5 c] 99) (g := w.heap.size) rfl)
  go_enter Tryz.func66, Tryz.ntmps66
  go_wp2_with fail
  go_loopw [5, 7] (fun v5 v7 wr => ∃ (i : Nat) (v : Value), v = v5 ∧ v7 = .int .i64 i ∧ i ≤ 12 ∧ Aside0 (OwnI wr w.heap.size v (nodesTo k i)) ∧ Aside0 (Below w.heap.size w wr) ∧ Aside0 (wr.heap[w.heap.size]? = some (.cells #[Value.int .i64 1, .int .i64 2, .int .i64 2, .int .i64 3, .int .i64 3, .int .i64 1, .int .i64 0, .int .i64 0, .int .i64 0, .int .i64 0, .int .i64 0, .int .i64 0, .slice (some A) 5 c] 99 (0, 0)))) (fun _ v7 _ => 12 - (intOf v7).toNat)
  case atStart => exact ⟨0, _, rfl, rfl, by omega, ⟨own_nilI _ _⟩, HB, HX⟩
  case round =>
    clear HB HX
    obtain ⟨i, v, rfl, rfl, hi, HO, HB, HX⟩ := hrel
    by_cases hlt : i < 12
    · have hw : IntKind.i64.wrap ((i : Int) + 1) = (i : Int) + 1 := IntWalk.i64_in _ ⟨by omega, by omega⟩
      obtain ⟨m0, m1, m2, m3, m4, m5, m6, m7, m8, m9, m10, m11, m12⟩ := tv_cells HX.out
      by_cases he : tKind ((i : Int) + 1) = k
      · have HL := Aside0.mk (nodesTo_len k i)
        have HY := Aside0.mk (nodesTo_yes he)
        go_wp2_with (first
          | (go_at_call 89; go_must (refine (PTopWiped.tree_isKind.calls _ true _ HK.out).mono ?_; rintro e w2 ⟨rfl, h⟩; have HB2 := Aside0.mk (below_step HB.out h.below); have HX2 := Aside0.mk (blk_below HX.out h.below); have HO2 := Aside0.mk (HO.out.below h.below); clear h HB HX HO m0 m1 m2 m3 m4 m5 m6 m7 m8 m9 m10 m11 m12; obtain ⟨m0, m1, m2, m3, m4, m5, m6, m7, m8, m9, m10, m11, m12⟩ := tv_cells HX2.out))
          | (go_at_call 69; go_must (refine (Kind_calls _ A c _).mono ?_; rintro e w1 ⟨rfl, h⟩; have HB := Aside0.mk (below_step HB2.out h); have HX := Aside0.mk (blk_below HX2.out h); have HO := Aside0.mk (HO2.out.below h); clear h HB2 HX2 HO2 m0 m1 m2 m3 m4 m5 m6 m7 m8 m9 m10 m11 m12))
          | (at_builtin; go_must (refine app_int w.heap.size rfl (.tmp 20) (.tmp 23) rfl v (nodesTo k i) [(i : Int) + 1] _ _ _ rfl rfl rfl (HO.out.below (below_alloc (Below.refl _ _) _)) (C_oneI _ _) (below_alloc HB.out _) (below_alloc HB.out _).size (by have := HL.out; simp only [List.length_singleton]; omega) ?_); go_must (intro v1 w3 O1 B1 G1; rw [← HY.out] at O1; have HO3 := Aside0.mk O1; have HB3 := Aside0.mk B1; have HX3 := Aside0.mk (blk_grown (blk_alloc HX.out _) G1 (HO.out.ne HX.out (by decide))); clear O1 B1 G1 HO HB HX)))
        go_roundw
        case rel => exact ⟨i + 1, _, rfl, by go_num, by omega, HO3, HB3, HX3⟩
        case measure => simp [intOf]; omega
      · have hq : (tKind ((i : Int) + 1) == k) = false := beq_false_of_ne he
        have HY := Aside0.mk (nodesTo_no he)
        clear he
        go_wp2_with (first
          | (go_at_call 89; go_must (refine (PTopWiped.tree_isKind.calls _ true _ HK.out).mono ?_; rintro e w2 ⟨rfl, h⟩; have HB2 := Aside0.mk (below_step HB.out h.below); have HX2 := Aside0.mk (blk_below HX.out h.below); have HO2 := Aside0.mk (HO.out.below h.below); clear h HB HX HO m0 m1 m2 m3 m4 m5 m6 m7 m8 m9 m10 m11 m12; obtain ⟨m0, m1, m2, m3, m4, m5, m6, m7, m8, m9, m10, m11, m12⟩ := tv_cells HX2.out))
          | (go_at_call 69; go_must (refine (Kind_calls _ A c _).mono ?_; rintro e w1 ⟨rfl, h⟩; have HB := Aside0.mk (below_step HB2.out h); have HX := Aside0.mk (blk_below HX2.out h); have HO := Aside0.mk (HO2.out.below h); clear h HB2 HX2 HO2 m0 m1 m2 m3 m4 m5 m6 m7 m8 m9 m10 m11 m12)))
        go_roundw
        case rel => exact ⟨i + 1, _, rfl, by go_num, by omega, ⟨by rw [HY.out]; exact HO.out⟩, HB, HX⟩
        case measure => simp [intOf]; omega
    · have he : i = 12 := by omega
      subst he
      go_wp2_with fail
      go_ret
      exact ⟨_, rfl, HO.out, HB.out⟩
end Go.Proofs.YtmapdfommjcebaaGreat.Own
namespace Go.Proofs.YtmapdfommjcebaaGreat.Own
open Go.RowKit Go.Proofs.YtmapdfommjcebaaGreatW.PrintWords Go.Proofs.YtmapdfommjcebaaGreatW.PrintLast Go.Proofs.YtmapdfommjcebaaGreatW.PrintMore
open PTopWiped
attribute [local go_sem high] eqA142
theorem atInts {w : World} {A : Option Addr} {n : Nat} {xs : List Int} (h : (Kd.int .i64).C w A n xs) (i : Nat) (x : Int) (hx : xs[i]? = some x) : ∃ ad, A = some ad ∧ w.cell? (ad.add i) = some (.int .i64 x) := by
  have hi := (List.getElem?_eq_some_iff.1 hx).1
  obtain ⟨ad, c, e, _, hK, hc⟩ := Kd.C_get h 0 (i : Int) (by omega) (by have := h.1; omega)
  refine ⟨ad, e, ?_⟩
  have e0 : xs.getD (i : Int).toNat 0 = x := by
    rw [Int.toNat_natCast]
    simp [List.getD_eq_getElem?_getD, hx]
  rw [e0] at hK
  obtain rfl := hK
  have := hc 0 _ rfl
  rwa [show (i : Int).toNat * (Kd.int .i64).sz + 0 = i by rw [show (Kd.int .i64).sz = 1 from rfl]; omega] at this
set_option maxHeartbeats 8000000 in
set_option maxRecDepth 100000 in
theorem kinds1_calls (w : World) (x : Int) (h0 : 0 ≤ x) (h3 : x ≤ 3) :
    Calls Tryz.prog 99 #[.int .i64 x] w fun e w' => e = .returned (.bool false) ∧ Below w.heap.size w w' := by
  have q0 : ¬ x < 0 := by omega
  have q3 : ¬ 3 < x := by omega
  go_enter Tryz.func99, Tryz.ntmps99
  go_wp2
  go_ret
  exact ⟨rfl, Below.refl _ _⟩
set_option maxHeartbeats 8000000 in
set_option maxRecDepth 100000 in
theorem IndexK_calls (w : World) (A : Addr) (c : Nat) (xs : List Int) (hC : (Kd.int .i64).C w (some A) xs.length xs) (hx : ∀ x ∈ xs, 0 ≤ x ∧ x ≤ 3) :
    Calls Tryz.prog 114 #[.slice (some A) xs.length c, .func (.func 99) #[] #[]] w fun e w' => e = .returned (.int .i64 (-1)) ∧ Below w.heap.size w w' := by
  have HC := Aside0.mk hC
  have HL := Aside0.mk hC.2.1
  have HX := Aside0.mk hx
  have HB := Aside0.mk (Below.refl w.heap.size w)
  clear hC hx
  obtain ⟨n, hn⟩ : ∃ n, n = xs.length := ⟨_, rfl⟩
  rw [← hn]
  have HN := Aside0.mk hn
  clear hn
  go_enter Tryz.func114, Tryz.ntmps114
  go_wp2_with fail
  go_loopw [8] (fun v8 wr => ∃ (i : Nat), v8 = .int .i64 i ∧ i ≤ n ∧ Aside0 (Below w.heap.size w wr)) (fun v8 _ => n - (intOf v8).toNat)
  case atStart => exact ⟨0, rfl, by omega, HB⟩
  case round =>
    clear HB
    obtain ⟨i, rfl, hi, HB⟩ := hrel
    by_cases hlt : i < n
    · have hlt' := HN.out ▸ hlt
      obtain ⟨x, hx⟩ : ∃ x, xs[i]? = some x := ⟨_, List.getElem?_eq_getElem hlt'⟩
      have HR := Aside0.mk (HX.out x (List.mem_of_getElem? hx))
      have hc : wr.cell? (A.add i) = some (.int .i64 x) := by
        obtain ⟨ad, e, h⟩ := atInts (Kd.C_below HC.out HB.out) i x hx
        injection e with e
        rw [e]
        exact h
      have hw : IntKind.i64.wrap ((i : Int) + 1) = (i : Int) + 1 := IntWalk.i64_in _ ⟨by omega, by have := HL.out; have := HN.out; omega⟩
      clear hx hlt'
      go_wp2_with (first
        | (go_at_call 99; go_must (refine (kinds1_calls _ x HR.out.1 HR.out.2).mono ?_; rintro e w2 ⟨rfl, h⟩; have HB2 := Aside0.mk (below_step HB.out h); clear h HB hc)))
      go_roundw
      case rel => exact ⟨i + 1, by go_num, by omega, HB2⟩
      case measure => simp [intOf]; omega
    · have he : i = n := by omega
      subst he
      go_wp2_with fail
      go_ret
      exact ⟨rfl, HB.out⟩
theorem C_tks {w : World} {g : Nat} {A : Addr} {c : Nat} {t : TypeId} {f : Nat × Nat} (h : w.heap[g]? = some (.cells #[Value.int .i64 1, .int .i64 2, .int .i64 2, .int .i64 3, .int .i64 3, .int .i64 1, .int .i64 0, .int .i64 0, .int .i64 0, .int .i64 0, .int .i64 0, .int .i64 0, .slice (some A) 5 c] t f)) : (Kd.int .i64).C w (some ⟨g, 0, none⟩) tks.length tks := by
  refine C_blk rfl h (by decide) fun j x hj => ⟨.int .i64 x, ?_, rfl⟩
  have hl := (List.getElem?_eq_some_iff.1 hj).1
  have := tks_at A c j hl
  rw [List.getD_eq_getElem?_getD, hj] at this
  rw [Nat.zero_add]
  exact this
set_option maxHeartbeats 8000000 in
set_option maxRecDepth 100000 in
theorem ContK_calls (w : World) (A : Addr) (c : Nat) (xs : List Int) (hC : (Kd.int .i64).C w (some A) xs.length xs) (hx : ∀ x ∈ xs, 0 ≤ x ∧ x ≤ 3) :
    Calls Tryz.prog 98 #[.slice (some A) xs.length c, .func (.func 99) #[] #[]] w fun e w' => e = .returned (.bool false) ∧ Below w.heap.size w w' := by
  have HC := Aside0.mk hC
  have HX := Aside0.mk hx
  clear hC hx
  go_enter Tryz.func98, Tryz.ntmps98
  go_wp2_with (go_at_call 114; go_must (refine (IndexK_calls _ A c xs HC.out HX.out).mono ?_; rintro e w2 ⟨rfl, h⟩; have HB2 := Aside0.mk h; clear h))
  go_ret
  exact ⟨rfl, HB2.out⟩
set_option maxHeartbeats 8000000 in
set_option maxRecDepth 100000 in
theorem kinds_calls (w : World) (A : Addr) (c : Nat) :
    Calls Tryz.prog 84 #[.agg #[Value.int .i64 1, .int .i64 2, .int .i64 2, .int .i64 3, .int .i64 3, .int .i64 1, .int .i64 0, .int .i64 0, .int .i64 0, .int .i64 0, .int .i64 0, .int .i64 0, .slice (some A) 5 c]] w fun e w' => e = .returned (.bool true) ∧ Below w.heap.size w w' := by
  have HC := Aside0.mk (C_tks (heap_at (w := w) (o := .cells #[Value.int .i64 1, .int .i64 2, .int .i64 2, .int .i64 3, .int .i64 3, .int .i64 1, .int .i64 0, .int .i64 0, .int .i64 0, .int .i64 0, .int .i64 0, .int .i64 0, .slice (some A) 5 c] 99) (g := w.heap.size) rfl))
  have HX := Aside0.mk (show ∀ x ∈ tks, 0 ≤ x ∧ x ≤ 3 by decide)
  go_enter Tryz.func84, Tryz.ntmps84
  go_wp2_with (go_at_call 98; go_must (refine (ContK_calls _ ⟨w.heap.size, 0, none⟩ 12 tks HC.out HX.out).mono ?_; rintro e w2 ⟨rfl, h⟩; have HB2 := Aside0.mk (below_step (below_alloc (Below.refl _ _) _) h); clear h))
  go_ret
  exact ⟨rfl, HB2.out⟩
/-! The edges. -/
def tes : List S142 := [⟨1, 4⟩, ⟨2, 4⟩, ⟨4, 5⟩, ⟨3, 5⟩, ⟨6, 5⟩]
def joins (a b : Int) (x : S142) : Bool := (x.f0 == a && (x.f1 == b)) || (x.f0 == b && (x.f1 == a))
set_option maxHeartbeats 8000000 in
set_option maxRecDepth 100000 in
theorem next1_calls (w : World) (p q : Nat) (a b x y : Int) (hp : w.heap[p]? = some (.cells #[.int .i64 a] 3 (0, 0))) (hq : w.heap[q]? = some (.cells #[.int .i64 b] 3 (0, 0))) :
    Calls Tryz.prog 116 #[.agg #[.int .i64 x, .int .i64 y], .pointer (some ⟨p, 0, none⟩), .pointer (some ⟨q, 0, none⟩)] w fun e w' => e = .returned (.bool (joins a b ⟨x, y⟩)) ∧ Below w.heap.size w w' := by
  have np := blk_lt hp
  have nq := blk_lt hq
  have cp : (w.alloc (.cells #[.int .i64 x, .int .i64 y] 142)).cell? ⟨p, 0, none⟩ = some (.int .i64 a) := cell_of_row _ p 0 _ _ _ (blk_alloc hp _)
  have cq : (w.alloc (.cells #[.int .i64 x, .int .i64 y] 142)).cell? ⟨q, 0, none⟩ = some (.int .i64 b) := cell_of_row _ q 0 _ _ _ (blk_alloc hq _)
  clear hp hq
  unfold joins
  by_cases h1 : (x == a && (y == b)) = true
  · rw [h1]
    go_enter Tryz.func116, Tryz.ntmps116
    go_wp2
    go_ret
    exact ⟨rfl, below_alloc (Below.refl _ _) _⟩
  · rw [Bool.not_eq_true] at h1
    rw [h1]
    go_enter Tryz.func116, Tryz.ntmps116
    go_wp2
    go_ret
    exact ⟨rfl, below_alloc (Below.refl _ _) _⟩
end Go.Proofs.YtmapdfommjcebaaGreat.Own
namespace Go.Proofs.YtmapdfommjcebaaGreat.Own
open Go.RowKit Go.Proofs.YtmapdfommjcebaaGreatW.PrintWords Go.Proofs.YtmapdfommjcebaaGreatW.PrintLast Go.Proofs.YtmapdfommjcebaaGreatW.PrintMore
open PTopWiped
attribute [local go_sem high] eqA142
def joinsTo (a b : Int) (i : Nat) : Bool := (tes.take i).any (joins a b)
theorem joinsTo_succ (a b : Int) {i : Nat} {x : S142} (h : tes[i]? = some x) : joinsTo a b (i + 1) = (joinsTo a b i || joins a b x) := by
  unfold joinsTo
  rw [List.take_add_one, h]
  simp
theorem joinsTo_all (a b : Int) {i : Nat} (h : joinsTo a b i = true) : tes.any (joins a b) = true := by
  unfold joinsTo at h
  rw [List.any_eq_true] at h ⊢
  obtain ⟨x, hx, hj⟩ := h
  exact ⟨x, List.mem_of_mem_take hx, hj⟩
theorem atEdge {w : World} {A : Addr} (h : Kd.C k142 w (some A) 5 tes) (i : Nat) (x : S142) (hx : tes[i]? = some x) : w.cell? (A.add (i * 2)) = some (.int .i64 x.f0) ∧ w.cell? ⟨(A.add (i * 2)).block, (A.add (i * 2)).off + 1, none⟩ = some (.int .i64 x.f1) := by
  have hi := (List.getElem?_eq_some_iff.1 hx).1
  obtain ⟨ad, e, h1, h2⟩ := at_T142 h (i : Int) (by omega) (by have : tes.length = 5 := rfl; omega)
  injection e with e
  subst e
  have e0 : rd_T142 tes (i : Int) = x := by
    unfold rd_T142
    rw [Int.toNat_natCast, List.getD_eq_getElem?_getD, hx]
    rfl
  rw [e0, Int.toNat_natCast] at h1 h2
  exact ⟨h1, h2⟩
set_option maxHeartbeats 8000000 in
set_option maxRecDepth 100000 in
theorem IndexE_calls (w : World) (A : Addr) (c p q : Nat) (a b : Int) (hC : Kd.C k142 w (some A) 5 tes) (hp : w.heap[p]? = some (.cells #[.int .i64 a] 3 (0, 0))) (hq : w.heap[q]? = some (.cells #[.int .i64 b] 3 (0, 0))) :
    Calls Tryz.prog 129 #[.slice (some A) 5 c, .func (.func 116) #[] #[.pointer (some ⟨p, 0, none⟩), .pointer (some ⟨q, 0, none⟩)]] w fun e w' => ∃ r : Int, e = .returned (.int .i64 r) ∧ decide (0 ≤ r) = tes.any (joins a b) ∧ Below w.heap.size w w' := by
  have HC := Aside0.mk hC
  have HP := Aside0.mk hp
  have HQ := Aside0.mk hq
  have HB := Aside0.mk (Below.refl w.heap.size w)
  clear hC hp hq
  go_enter Tryz.func129, Tryz.ntmps129
  go_wp2_with fail
  go_loopw [8] (fun v8 wr => ∃ (i : Nat), v8 = .int .i64 i ∧ i ≤ 5 ∧ Aside0 (joinsTo a b i = false) ∧ Aside0 (Below w.heap.size w wr)) (fun v8 _ => 5 - (intOf v8).toNat)
  case atStart => exact ⟨0, rfl, by omega, ⟨rfl⟩, HB⟩
  case round =>
    clear HB
    obtain ⟨i, rfl, hi, HJ, HB⟩ := hrel
    by_cases hlt : i < 5
    · obtain ⟨x, hx⟩ : ∃ x, tes[i]? = some x := ⟨_, List.getElem?_eq_getElem hlt⟩
      obtain ⟨c0, c1⟩ := atEdge (Kd.C_below HC.out HB.out) i x hx
      have HJ2 := Aside0.mk (joinsTo_succ a b hx)
      have hw : IntKind.i64.wrap ((i : Int) + 1) = (i : Int) + 1 := IntWalk.i64_in _ ⟨by omega, by omega⟩
      obtain ⟨x0, x1⟩ := x
      clear hx
      cases hj : joins a b ⟨x0, x1⟩ with
      | true =>
        have HJ3 := Aside0.mk (joinsTo_all a b (i := i + 1) (by rw [HJ2.out, hj, Bool.or_true]))
        go_wp2_with (go_at_call 116; go_must (refine (next1_calls _ p q a b x0 x1 (blk_below HP.out HB.out) (blk_below HQ.out HB.out)).mono ?_; rw [hj]; rintro e w2 ⟨rfl, h⟩; have HB2 := Aside0.mk (below_step HB.out h); clear h HB c0 c1))
        go_ret
        exact ⟨_, rfl, by rw [HJ3.out]; exact decide_eq_true (by omega), HB2.out⟩
      | false =>
        go_wp2_with (go_at_call 116; go_must (refine (next1_calls _ p q a b x0 x1 (blk_below HP.out HB.out) (blk_below HQ.out HB.out)).mono ?_; rw [hj]; rintro e w2 ⟨rfl, h⟩; have HB2 := Aside0.mk (below_step HB.out h); clear h HB c0 c1))
        go_roundw
        case rel => exact ⟨i + 1, by go_num, by omega, ⟨by rw [HJ2.out, HJ.out, hj]; rfl⟩, HB2⟩
        case measure => simp [intOf]; omega
    · have he : i = 5 := by omega
      subst he
      go_wp2_with fail
      go_ret
      exact ⟨_, rfl, by rw [show tes.any (joins a b) = false from HJ.out]; rfl, HB.out⟩
set_option maxHeartbeats 8000000 in
set_option maxRecDepth 100000 in
theorem ContE_calls (w : World) (A : Addr) (c p q : Nat) (a b : Int) (hC : Kd.C k142 w (some A) 5 tes) (hp : w.heap[p]? = some (.cells #[.int .i64 a] 3 (0, 0))) (hq : w.heap[q]? = some (.cells #[.int .i64 b] 3 (0, 0))) :
    Calls Tryz.prog 117 #[.slice (some A) 5 c, .func (.func 116) #[] #[.pointer (some ⟨p, 0, none⟩), .pointer (some ⟨q, 0, none⟩)]] w fun e w' => e = .returned (.bool (tes.any (joins a b))) ∧ Below w.heap.size w w' := by
  have HC := Aside0.mk hC
  have HP := Aside0.mk hp
  have HQ := Aside0.mk hq
  clear hC hp hq
  go_enter Tryz.func117, Tryz.ntmps117
  go_wp2_with (go_at_call 129; go_must (refine (IndexE_calls _ A c p q a b HC.out HP.out HQ.out).mono ?_; rintro e w2 ⟨r, rfl, hr, h⟩; have HB2 := Aside0.mk h; have HR := Aside0.mk hr; clear h hr))
  go_ret
  exact ⟨by rw [← HR.out]; rfl, HB2.out⟩
theorem OwnI.off {w : World} {base g : Nat} {v : Value} {xs : List Int} (h : OwnI w base v xs) (hg : g < base) : some g ≠ v.ownBlock := by
  intro e
  obtain ⟨_, h | ⟨b, cap, cells, rfl, hb, _⟩⟩ := h
  · rw [h.1] at e
    simp [Value.ownBlock] at e
  · simp only [Value.ownBlock, Option.some.injEq] at e
    omega
/-- Is there an edge from a node to a node? -/
def nextQ (a b : Int) : Bool := (b != a) && (decide (1 ≤ tKind b) && (decide (1 ≤ tKind a) && tes.any (joins a b)))
def nextTo (a : Int) (i : Nat) : List Int := ((List.range i).filter (fun j : Nat => nextQ a ((j : Int) + 1))).map (fun j : Nat => (j : Int) + 1)
theorem nextTo_yes {a : Int} {i : Nat} (h : nextQ a ((i : Int) + 1) = true) : nextTo a (i + 1) = nextTo a i ++ [(i : Int) + 1] := by
  simp [nextTo, List.range_succ, h]
theorem nextTo_no {a : Int} {i : Nat} (h : nextQ a ((i : Int) + 1) = false) : nextTo a (i + 1) = nextTo a i := by
  simp [nextTo, List.range_succ, h]
theorem nextTo_len (a : Int) (i : Nat) : (nextTo a i).length ≤ i := by
  unfold nextTo
  rw [List.length_map]
  exact Nat.le_trans (List.length_filter_le _ _) (by simp)
set_option maxHeartbeats 8000000 in
set_option maxRecDepth 100000 in
theorem Next_calls (w : World) (A : Addr) (c : Nat) (a : Int) (hC : Kd.C k142 w (some A) 5 tes) :
    Calls Tryz.prog 101 #[.agg #[Value.int .i64 1, .int .i64 2, .int .i64 2, .int .i64 3, .int .i64 3, .int .i64 1, .int .i64 0, .int .i64 0, .int .i64 0, .int .i64 0, .int .i64 0, .int .i64 0, .slice (some A) 5 c], .int .i64 a] w fun e w' => ∃ v, e = .returned v ∧ OwnI w' w.heap.size v (nextTo a 12) ∧ Below w.heap.size w w' := by
  have HC := Aside0.mk (Kd.C_below hC (below_alloc (below_alloc (Below.refl w.heap.size w) (.cells #[Value.int .i64 1, .int .i64 2, .int .i64 2, .int .i64 3, .int .i64 3, .int .i64 1, .int .i64 0, .int .i64 0, .int .i64 0, .int .i64 0, .int .i64 0, .int .i64 0, .slice (some A) 5 c] 99)) (.cells #[.int .i64 a] 3)))
  obtain ⟨w0, hw0⟩ : ∃ w0, w0 = ((w.alloc (.cells #[Value.int .i64 1, .int .i64 2, .int .i64 2, .int .i64 3, .int .i64 3, .int .i64 1, .int .i64 0, .int .i64 0, .int .i64 0, .int .i64 0, .int .i64 0, .int .i64 0, .slice (some A) 5 c] 99)).alloc (.cells #[.int .i64 a] 3)) := ⟨_, rfl⟩
  have HW0 := Aside0.mk hw0
  have HX := Aside0.mk (blk_alloc (heap_at (w := w) (o := .cells #[Value.int .i64 1, .int .i64 2, .int .i64 2, .int .i64 3, .int .i64 3, .int .i64 1, .int .i64 0, .int .i64 0, .int .i64 0, .int .i64 0, .int .i64 0, .int .i64 0, .slice (some A) 5 c] 99) (g := w.heap.size) rfl) (.cells #[.int .i64 a] 3))
  have HN := Aside0.mk (heap_at (w := w.alloc (.cells #[Value.int .i64 1, .int .i64 2, .int .i64 2, .int .i64 3, .int .i64 3, .int .i64 1, .int .i64 0, .int .i64 0, .int .i64 0, .int .i64 0, .int .i64 0, .int .i64 0, .slice (some A) 5 c] 99)) (o := .cells #[.int .i64 a] 3) (g := w.heap.size + 1) (by simp))
  have HS := Aside0.mk (show w0.heap.size = w.heap.size + 2 by rw [hw0]; simp)
  rw [← hw0] at HC
  clear hC hw0
  go_enter Tryz.func101, Tryz.ntmps101
  go_wp2_with fail
  go_loopw [5, 9] (fun v5 v9 wr => ∃ (i : Nat) (v : Value), v = v5 ∧ v9 = .int .i64 i ∧ i ≤ 12 ∧ Aside0 (OwnI wr w0.heap.size v (nextTo a i)) ∧ Aside0 (Below w0.heap.size w0 wr) ∧ Aside0 (wr.heap[w.heap.size]? = some (.cells #[Value.int .i64 1, .int .i64 2, .int .i64 2, .int .i64 3, .int .i64 3, .int .i64 1, .int .i64 0, .int .i64 0, .int .i64 0, .int .i64 0, .int .i64 0, .int .i64 0, .slice (some A) 5 c] 99 (0, 0))) ∧ Aside0 (wr.heap[w.heap.size + 1]? = some (.cells #[.int .i64 a] 3 (0, 0)))) (fun _ v9 _ => 12 - (intOf v9).toNat)
  case atStart => exact ⟨0, _, rfl, rfl, by omega, ⟨own_nilI _ _⟩, ⟨by rw [← HW0.out]; exact Below.refl _ _⟩, HX, HN⟩
  case round =>
    clear HX HN
    obtain ⟨i, v, rfl, rfl, hi, HO0, HB0, HX0, HN0⟩ := hrel
    by_cases hlt : i < 12
    · have hw : IntKind.i64.wrap ((i : Int) + 1) = (i : Int) + 1 := IntWalk.i64_in _ ⟨by omega, by omega⟩
      have t1 : True := trivial
      have t2 : True := trivial
      have HB := Aside0.mk (below_alloc HB0.out (.cells #[.int .i64 ((i : Int) + 1)] 3))
      have HX := Aside0.mk (blk_alloc HX0.out (.cells #[.int .i64 ((i : Int) + 1)] 3))
      have HN := Aside0.mk (blk_alloc HN0.out (.cells #[.int .i64 ((i : Int) + 1)] 3))
      have HO := Aside0.mk (HO0.out.below (below_alloc (Below.refl _ _) (.cells #[.int .i64 ((i : Int) + 1)] 3)))
      have HG := Aside0.mk (heap_at (w := wr) (o := (.cells #[.int .i64 ((i : Int) + 1)] 3)) (g := wr.heap.size) rfl)
      clear HB0 HX0 HN0 HO0
      obtain ⟨m0, m1, m2, m3, m4, m5, m6, m7, m8, m9, m10, m11, m12⟩ := tv_cells HX.out
      have c1 := cell_of_row _ (w.heap.size + 1) 0 _ _ _ HN.out
      have c2 : True := trivial
      by_cases q1 : (((i : Int) + 1) != a) = true
      · by_cases q2 : decide (1 ≤ tKind ((i : Int) + 1)) = true
        · by_cases q3 : decide (1 ≤ tKind a) = true
          · by_cases q4 : tes.any (joins a ((i : Int) + 1)) = true
            · skip
              have Q2 := Aside0.mk q2
              have Q3 := Aside0.mk q3
              have Q4 := Aside0.mk q4
              have HY := Aside0.mk (nextTo_yes (a := a) (i := i) (by unfold nextQ; rw [q1, q2, q3, q4]; rfl))
              have HL := Aside0.mk (nextTo_len a i)
              clear q2 q3 q4
              go_wp2_with (first
                | (go_at_call 86; have _t := t1; go_must (refine (there_calls _ A c ((i : Int) + 1)).mono ?_; rw [Q2.out]; rintro e w1 ⟨rfl, h⟩; have HB1 := Aside0.mk (below_step HB.out h); have HX1 := Aside0.mk (blk_below HX.out h); have HN1 := Aside0.mk (blk_below HN.out h); have HO1 := Aside0.mk (HO.out.below h); have HG1 := Aside0.mk (blk_below HG.out h); clear t1 h HB HX HN HO HG c1 c2 m0 m1 m2 m3 m4 m5 m6 m7 m8 m9 m10 m11 m12; have HB := HB1; have HX := HX1; have HN := HN1; have HO := HO1; have HG := HG1; clear HB1 HX1 HN1 HO1 HG1; obtain ⟨m0, m1, m2, m3, m4, m5, m6, m7, m8, m9, m10, m11, m12⟩ := tv_cells HX.out; have c1 := cell_of_row _ (w.heap.size + 1) 0 _ _ _ HN.out; have c2 := cell_of_row _ wr.heap.size 0 _ _ _ HG.out))
                | (go_at_call 86; have _t := t2; go_must (refine (there_calls _ A c a).mono ?_; rw [Q3.out]; rintro e w2 ⟨rfl, h⟩; have HB1 := Aside0.mk (below_step HB.out h); have HX1 := Aside0.mk (blk_below HX.out h); have HN1 := Aside0.mk (blk_below HN.out h); have HO1 := Aside0.mk (HO.out.below h); have HG1 := Aside0.mk (blk_below HG.out h); clear t2 h HB HX HN HO HG c1 c2 m0 m1 m2 m3 m4 m5 m6 m7 m8 m9 m10 m11 m12; have HB := HB1; have HX := HX1; have HN := HN1; have HO := HO1; have HG := HG1; clear HB1 HX1 HN1 HO1 HG1; obtain ⟨m0, m1, m2, m3, m4, m5, m6, m7, m8, m9, m10, m11, m12⟩ := tv_cells HX.out; have c1 := cell_of_row _ (w.heap.size + 1) 0 _ _ _ HN.out; have c2 := cell_of_row _ wr.heap.size 0 _ _ _ HG.out))
                | (go_at_call 117; go_must (refine (ContE_calls _ A c (w.heap.size + 1) wr.heap.size a ((i : Int) + 1) (Kd.C_below HC.out HB.out) HN.out HG.out).mono ?_; rw [Q4.out]; rintro e w3 ⟨rfl, h⟩; have HB1 := Aside0.mk (below_step HB.out h); have HX1 := Aside0.mk (blk_below HX.out h); have HN1 := Aside0.mk (blk_below HN.out h); have HO1 := Aside0.mk (HO.out.below h); have HG1 := Aside0.mk (blk_below HG.out h); clear h HB HX HN HO HG c1 c2 m0 m1 m2 m3 m4 m5 m6 m7 m8 m9 m10 m11 m12; have HB := HB1; have HX := HX1; have HN := HN1; have HO := HO1; have HG := HG1; clear HB1 HX1 HN1 HO1 HG1; have c2 := cell_of_row _ wr.heap.size 0 _ _ _ HG.out))
                | (at_builtin; go_must (refine app_int w0.heap.size rfl (.tmp 34) (.tmp 36) rfl v (nextTo a i) [(i : Int) + 1] _ _ _ rfl rfl rfl (HO.out.below (below_alloc (Below.refl _ _) _)) (C_oneI _ _) (below_alloc HB.out _) (below_alloc HB.out _).size (by have := HL.out; simp only [List.length_singleton]; omega) ?_); go_must (intro v1 w4 O1 B1 G1; rw [← HY.out] at O1; have HO3 := Aside0.mk O1; have HB3 := Aside0.mk B1; have HX3 := Aside0.mk (blk_grown (blk_alloc HX.out _) G1 (HO.out.off (by have := HS.out; omega))); have HN3 := Aside0.mk (blk_grown (blk_alloc HN.out _) G1 (HO.out.off (by have := HS.out; omega))); clear O1 B1 G1 HO HB HX HN)))
              go_roundw
              case rel => exact ⟨i + 1, _, rfl, by go_num, by omega, HO3, HB3, HX3, HN3⟩
              case measure => simp [intOf]; omega
            · rw [Bool.not_eq_true] at q4
              have Q2 := Aside0.mk q2
              have Q3 := Aside0.mk q3
              have Q4 := Aside0.mk q4
              have HY := Aside0.mk (nextTo_no (a := a) (i := i) (by unfold nextQ; rw [q1, q2, q3, q4]; simp))
              clear q2 q3 q4
              go_wp2_with (first
                | (go_at_call 86; have _t := t1; go_must (refine (there_calls _ A c ((i : Int) + 1)).mono ?_; rw [Q2.out]; rintro e w1 ⟨rfl, h⟩; have HB1 := Aside0.mk (below_step HB.out h); have HX1 := Aside0.mk (blk_below HX.out h); have HN1 := Aside0.mk (blk_below HN.out h); have HO1 := Aside0.mk (HO.out.below h); have HG1 := Aside0.mk (blk_below HG.out h); clear t1 h HB HX HN HO HG c1 c2 m0 m1 m2 m3 m4 m5 m6 m7 m8 m9 m10 m11 m12; have HB := HB1; have HX := HX1; have HN := HN1; have HO := HO1; have HG := HG1; clear HB1 HX1 HN1 HO1 HG1; obtain ⟨m0, m1, m2, m3, m4, m5, m6, m7, m8, m9, m10, m11, m12⟩ := tv_cells HX.out; have c1 := cell_of_row _ (w.heap.size + 1) 0 _ _ _ HN.out; have c2 := cell_of_row _ wr.heap.size 0 _ _ _ HG.out))
                | (go_at_call 86; have _t := t2; go_must (refine (there_calls _ A c a).mono ?_; rw [Q3.out]; rintro e w2 ⟨rfl, h⟩; have HB1 := Aside0.mk (below_step HB.out h); have HX1 := Aside0.mk (blk_below HX.out h); have HN1 := Aside0.mk (blk_below HN.out h); have HO1 := Aside0.mk (HO.out.below h); have HG1 := Aside0.mk (blk_below HG.out h); clear t2 h HB HX HN HO HG c1 c2 m0 m1 m2 m3 m4 m5 m6 m7 m8 m9 m10 m11 m12; have HB := HB1; have HX := HX1; have HN := HN1; have HO := HO1; have HG := HG1; clear HB1 HX1 HN1 HO1 HG1; obtain ⟨m0, m1, m2, m3, m4, m5, m6, m7, m8, m9, m10, m11, m12⟩ := tv_cells HX.out; have c1 := cell_of_row _ (w.heap.size + 1) 0 _ _ _ HN.out; have c2 := cell_of_row _ wr.heap.size 0 _ _ _ HG.out))
                | (go_at_call 117; go_must (refine (ContE_calls _ A c (w.heap.size + 1) wr.heap.size a ((i : Int) + 1) (Kd.C_below HC.out HB.out) HN.out HG.out).mono ?_; rw [Q4.out]; rintro e w3 ⟨rfl, h⟩; have HB1 := Aside0.mk (below_step HB.out h); have HX1 := Aside0.mk (blk_below HX.out h); have HN1 := Aside0.mk (blk_below HN.out h); have HO1 := Aside0.mk (HO.out.below h); have HG1 := Aside0.mk (blk_below HG.out h); clear h HB HX HN HO HG c1 c2 m0 m1 m2 m3 m4 m5 m6 m7 m8 m9 m10 m11 m12; have HB := HB1; have HX := HX1; have HN := HN1; have HO := HO1; have HG := HG1; clear HB1 HX1 HN1 HO1 HG1; have c2 := cell_of_row _ wr.heap.size 0 _ _ _ HG.out)))
              go_roundw
              case rel => exact ⟨i + 1, _, rfl, by go_num, by omega, ⟨by rw [HY.out]; exact HO.out⟩, HB, HX, HN⟩
              case measure => simp [intOf]; omega
          · rw [Bool.not_eq_true] at q3
            have Q2 := Aside0.mk q2
            have Q3 := Aside0.mk q3
            have HY := Aside0.mk (nextTo_no (a := a) (i := i) (by unfold nextQ; rw [q1, q2, q3]; simp))
            clear q2 q3
            go_wp2_with (first
              | (go_at_call 86; have _t := t1; go_must (refine (there_calls _ A c ((i : Int) + 1)).mono ?_; rw [Q2.out]; rintro e w1 ⟨rfl, h⟩; have HB1 := Aside0.mk (below_step HB.out h); have HX1 := Aside0.mk (blk_below HX.out h); have HN1 := Aside0.mk (blk_below HN.out h); have HO1 := Aside0.mk (HO.out.below h); have HG1 := Aside0.mk (blk_below HG.out h); clear t1 h HB HX HN HO HG c1 c2 m0 m1 m2 m3 m4 m5 m6 m7 m8 m9 m10 m11 m12; have HB := HB1; have HX := HX1; have HN := HN1; have HO := HO1; have HG := HG1; clear HB1 HX1 HN1 HO1 HG1; obtain ⟨m0, m1, m2, m3, m4, m5, m6, m7, m8, m9, m10, m11, m12⟩ := tv_cells HX.out; have c1 := cell_of_row _ (w.heap.size + 1) 0 _ _ _ HN.out; have c2 := cell_of_row _ wr.heap.size 0 _ _ _ HG.out))
              | (go_at_call 86; have _t := t2; go_must (refine (there_calls _ A c a).mono ?_; rw [Q3.out]; rintro e w2 ⟨rfl, h⟩; have HB1 := Aside0.mk (below_step HB.out h); have HX1 := Aside0.mk (blk_below HX.out h); have HN1 := Aside0.mk (blk_below HN.out h); have HO1 := Aside0.mk (HO.out.below h); have HG1 := Aside0.mk (blk_below HG.out h); clear t2 h HB HX HN HO HG c1 c2 m0 m1 m2 m3 m4 m5 m6 m7 m8 m9 m10 m11 m12; have HB := HB1; have HX := HX1; have HN := HN1; have HO := HO1; have HG := HG1; clear HB1 HX1 HN1 HO1 HG1; obtain ⟨m0, m1, m2, m3, m4, m5, m6, m7, m8, m9, m10, m11, m12⟩ := tv_cells HX.out; have c1 := cell_of_row _ (w.heap.size + 1) 0 _ _ _ HN.out; have c2 := cell_of_row _ wr.heap.size 0 _ _ _ HG.out)))
            go_roundw
            case rel => exact ⟨i + 1, _, rfl, by go_num, by omega, ⟨by rw [HY.out]; exact HO.out⟩, HB, HX, HN⟩
            case measure => simp [intOf]; omega
        · rw [Bool.not_eq_true] at q2
          have Q2 := Aside0.mk q2
          have HY := Aside0.mk (nextTo_no (a := a) (i := i) (by unfold nextQ; rw [q1, q2]; simp))
          clear q2
          go_wp2_with (first
            | (go_at_call 86; have _t := t1; go_must (refine (there_calls _ A c ((i : Int) + 1)).mono ?_; rw [Q2.out]; rintro e w1 ⟨rfl, h⟩; have HB1 := Aside0.mk (below_step HB.out h); have HX1 := Aside0.mk (blk_below HX.out h); have HN1 := Aside0.mk (blk_below HN.out h); have HO1 := Aside0.mk (HO.out.below h); have HG1 := Aside0.mk (blk_below HG.out h); clear t1 h HB HX HN HO HG c1 c2 m0 m1 m2 m3 m4 m5 m6 m7 m8 m9 m10 m11 m12; have HB := HB1; have HX := HX1; have HN := HN1; have HO := HO1; have HG := HG1; clear HB1 HX1 HN1 HO1 HG1; obtain ⟨m0, m1, m2, m3, m4, m5, m6, m7, m8, m9, m10, m11, m12⟩ := tv_cells HX.out; have c1 := cell_of_row _ (w.heap.size + 1) 0 _ _ _ HN.out; have c2 := cell_of_row _ wr.heap.size 0 _ _ _ HG.out)))
          go_roundw
          case rel => exact ⟨i + 1, _, rfl, by go_num, by omega, ⟨by rw [HY.out]; exact HO.out⟩, HB, HX, HN⟩
          case measure => simp [intOf]; omega
      · rw [Bool.not_eq_true] at q1
        have HY := Aside0.mk (nextTo_no (a := a) (i := i) (by unfold nextQ; rw [q1]; rfl))
        go_wp2_with fail
        go_roundw
        case rel => exact ⟨i + 1, _, rfl, by go_num, by omega, ⟨by rw [HY.out]; exact HO.out⟩, HB, HX, HN⟩
        case measure => simp [intOf]; omega
    · have he : i = 12 := by omega
      subst he
      go_wp2_with fail
      go_ret
      exact ⟨_, rfl, own_weaken HO0.out (by have := HS.out; omega), below_step (below_alloc (below_alloc (Below.refl w.heap.size w) _) _) (by rw [← HW0.out]; exact HB0.out)⟩
end Go.Proofs.YtmapdfommjcebaaGreat.Own
namespace Go.Proofs.YtmapdfommjcebaaGreat.Own
open Go.RowKit Go.Proofs.YtmapdfommjcebaaGreatW.PrintWords Go.Proofs.YtmapdfommjcebaaGreatW.PrintLast Go.Proofs.YtmapdfommjcebaaGreatW.PrintMore
open PTopWiped
set_option maxHeartbeats 8000000 in
set_option maxRecDepth 100000 in
theorem Len64_six (w : World) : Calls Tryz.prog 140 #[.int .u64 6] w fun e w' => ∃ r : Int, e = .returned (.int .i64 r) ∧ w' = w := by
  go_enter Tryz.func140, Tryz.ntmps140
  go_wp2
  go_ret
  exact ⟨_, rfl, rfl⟩
set_option maxHeartbeats 8000000 in
set_option maxRecDepth 100000 in
theorem Len_six (w : World) : Calls Tryz.prog 120 #[.int .u64 6] w fun e w' => ∃ r : Int, e = .returned (.int .i64 r) ∧ w' = w := by
  go_enter Tryz.func120, Tryz.ntmps120
  go_wp2_with (go_at_call 140; go_must (refine (Len64_six _).mono ?_; rintro e w1 ⟨r, rfl, rfl⟩))
  go_ret
  exact ⟨_, rfl, rfl⟩
theorem ins_six : slices_insertionSortOrdered_int.f 40 [4, 1, 2, 5, 3, 6] 0 6 = some [1, 2, 3, 4, 5, 6] := by kernel_rfl
theorem R_ownI {w : World} {base : Nat} {v : Value} {xs : List Int} (h : OwnI w base v xs) : Kd.R (Kd.int .i64) 3 w base (fun k => v.ownBlock = some k) v xs := Kd.R_of_own h (fun _ hk => hk)
set_option maxHeartbeats 8000000 in
set_option maxRecDepth 100000 in
theorem pdq_six (w0 w : World) (A : Option Addr) (c : Nat) (r : Int) (hB : Below w0.heap.size w0 w) (h : OwnI w w0.heap.size (.slice A 6 c) [4, 1, 2, 5, 3, 6]) :
    Calls Tryz.prog 119 #[.slice A 6 c, .int .i64 0, .int .i64 6, .int .i64 r] w fun e w' => e = .returned (.tuple #[]) ∧ OwnI w' w0.heap.size (.slice A 6 c) [1, 2, 3, 4, 5, 6] ∧ Below w0.heap.size w0 w' := by
  have HB := Aside0.mk hB
  have HO := Aside0.mk (R_ownI h)
  clear hB h
  go_enter Tryz.func119, Tryz.ntmps119
  go_wp2_with fail
  go_loopw [1, 2] (fun v1 v2 wr => v1 = .int .i64 0 ∧ v2 = .int .i64 6 ∧ Aside0 (Below w0.heap.size w0 wr) ∧ Aside0 (Kd.R (Kd.int .i64) 3 wr w0.heap.size (fun k => (Value.slice A 6 c).ownBlock = some k) (.slice A 6 c) [4, 1, 2, 5, 3, 6])) (fun _ _ _ => 0)
  case atStart => exact ⟨rfl, rfl, HB, HO⟩
  case round =>
    clear HB HO
    obtain ⟨rfl, rfl, HB, HO⟩ := hrel
    go_wp2_with (go_at_call 130; go_must (refine (slices_insertionSortOrdered_int.calls 40 _ _ _ 0 6 _ w0 _ HB.out HO.out ins_six).mono ?_; rintro e w1 ⟨rfl, h1, h2, _⟩; have HB2 := Aside0.mk h2; have HO2 := Aside0.mk (Kd.own_of_R h1); clear h1 h2 HB HO))
    refine bodyPost_ret (results_none rfl _ _ _) rfl ?_
    exact ⟨rfl, HO2.out, HB2.out⟩
set_option maxHeartbeats 8000000 in
set_option maxRecDepth 100000 in
theorem Sort_six (w0 w : World) (A : Option Addr) (c : Nat) (hB : Below w0.heap.size w0 w) (h : OwnI w w0.heap.size (.slice A 6 c) [4, 1, 2, 5, 3, 6]) :
    Calls Tryz.prog 103 #[.slice A 6 c] w fun e w' => e = .returned (.tuple #[]) ∧ OwnI w' w0.heap.size (.slice A 6 c) [1, 2, 3, 4, 5, 6] ∧ Below w0.heap.size w0 w' := by
  have HB := Aside0.mk hB
  have HO := Aside0.mk h
  clear hB h
  go_enter Tryz.func103, Tryz.ntmps103
  go_wp2_with (first
    | (go_at_call 120; go_must (refine (Len_six _).mono ?_; rintro e w1 ⟨r, rfl, rfl⟩))
    | (go_at_call 119; go_must (refine (pdq_six w0 _ A c _ HB.out HO.out).mono ?_; rintro e w1 ⟨rfl, h1, h2⟩; have HB2 := Aside0.mk h2; have HO2 := Aside0.mk h1; clear h1 h2 HB HO)))
  go_end0
  exact ⟨rfl, HO2.out, HB2.out⟩
end Go.Proofs.YtmapdfommjcebaaGreat.Own
