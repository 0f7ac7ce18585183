/- Two inputs that are one packet are the same. An input that is a packet: it is the same as its own part. An input that is a packet: its own part. An input that is a packet may be, as its packet may; its bytes. An input that is a packet is written: it comes back, with bytes of its own. -/
import Derived.Test.YtmapdfommjcebaaGreatWrA
import Derived.Laws.Externs
import Derived.Test.YtmapdfommjcebaaGreatTrB
import Derived.Deep.MidRow
import Derived.Deep.RegionHeld3
namespace Go.Proofs.YtmapdfommjcebaaGreat.Own
open Go.RowKit Go.Proofs.YtmapdfommjcebaaGreatW.PrintWords Go.Proofs.YtmapdfommjcebaaGreatW.PrintLast Go.Proofs.YtmapdfommjcebaaGreatW.PrintMore
theorem run_bits (w : World) : (callFunc 95 #[.float .f64 0]).run Tryz.prog w = .ok (.value (.int .u64 ((0 : Nat) : Int))) w := by
  rw [run_callFunc_extern Tryz.func95 (by kernel_rfl) (by kernel_rfl) (by kernel_rfl) (e := Extern.MathFloatBits.float64bits) (by kernel_rfl)]
  rfl
def keyZ : Int := bits BinOp.or IntKind.u64 0 9223372036854775808
set_option maxHeartbeats 2000000 in
set_option maxRecDepth 100000 in
theorem Key_zero (w : World) : Calls Tryz.prog 80 #[.float .f64 0] w fun e w' => e = .returned (.int .u64 keyZ) ∧ w = w' := by
  have hF := fun w => run_bits w
  have q1 : (bits BinOp.and IntKind.u64 0 9223372036854775808 == 0) = true := by decide +kernel
  go_enter Tryz.func80, Tryz.ntmps80
  go_wp2_with fail
  go_ret
  exact ⟨rfl, rfl⟩
set_option maxHeartbeats 2000000 in
set_option maxRecDepth 100000 in
theorem SameF_zero (w : World) : Calls Tryz.prog 74 #[.float .f64 0, .float .f64 0] w fun e w' => e = .returned (.bool true) ∧ w = w' := by
  go_enter Tryz.func74, Tryz.ntmps74
  go_wp2_with (go_at_call 80; go_must (refine (Key_zero _).mono ?_; rintro e w1 ⟨rfl, rfl⟩))
  go_ret
  exact ⟨rfl, rfl⟩
set_option maxHeartbeats 2000000 in
set_option maxRecDepth 100000 in
theorem sameOp_zero (w : World) : Calls Tryz.prog 93 #[.agg #[Value.int .i64 0, .int .i64 0, .int .i64 0, .float .f64 0], .agg #[Value.int .i64 0, .int .i64 0, .int .i64 0, .float .f64 0]] w fun e w' => e = .returned (.bool true) ∧ Below w.heap.size w w' := by
  go_enter Tryz.func93, Tryz.ntmps93
  go_wp2_with (go_at_call 74; go_must (refine (SameF_zero _).mono ?_; rintro e w1 ⟨rfl, rfl⟩))
  go_ret
  exact ⟨rfl, below_alloc (below_alloc (Below.refl _ _) _) _⟩
theorem eqVec (w : World) : (binOp .eql 38 (.agg #[Value.int IntKind.u32 0, Value.int IntKind.u32 0, Value.int IntKind.u32 0, Value.int IntKind.u32 0, Value.int IntKind.u32 0, Value.int IntKind.u32 0, Value.int IntKind.u32 0, Value.int IntKind.u32 0, Value.int IntKind.u32 0, Value.int IntKind.u32 0, Value.int IntKind.u32 0, Value.int IntKind.u32 0]) (.agg #[Value.int IntKind.u32 0, Value.int IntKind.u32 0, Value.int IntKind.u32 0, Value.int IntKind.u32 0, Value.int IntKind.u32 0, Value.int IntKind.u32 0, Value.int IntKind.u32 0, Value.int IntKind.u32 0, Value.int IntKind.u32 0, Value.int IntKind.u32 0, Value.int IntKind.u32 0, Value.int IntKind.u32 0])).run Tryz.prog w = .ok (.bool true) w := by kernel_rfl
theorem eqLab (w : World) : (binOp .eql 152 (.agg #[Value.int IntKind.u64 0, Value.int IntKind.i64 0, Value.int IntKind.u32 0, Value.int IntKind.i64 0, Value.int IntKind.i64 0, Value.int IntKind.u32 0, Value.int IntKind.u32 0, Value.int IntKind.u32 0, Value.int IntKind.u32 0, Value.int IntKind.u32 0, Value.int IntKind.u32 0, Value.int IntKind.u32 0, Value.int IntKind.u32 0, Value.int IntKind.u32 0, Value.int IntKind.u32 0, Value.int IntKind.u32 0, Value.int IntKind.u32 0]) (.agg #[Value.int IntKind.u64 0, Value.int IntKind.i64 0, Value.int IntKind.u32 0, Value.int IntKind.i64 0, Value.int IntKind.i64 0, Value.int IntKind.u32 0, Value.int IntKind.u32 0, Value.int IntKind.u32 0, Value.int IntKind.u32 0, Value.int IntKind.u32 0, Value.int IntKind.u32 0, Value.int IntKind.u32 0, Value.int IntKind.u32 0, Value.int IntKind.u32 0, Value.int IntKind.u32 0, Value.int IntKind.u32 0, Value.int IntKind.u32 0])).run Tryz.prog w = .ok (.bool true) w := by kernel_rfl
attribute [local go_sem high] eqVec eqLab
set_option maxHeartbeats 2000000 in
set_option maxRecDepth 100000 in
theorem opSame_zero (w : World) : Calls Tryz.prog 78 #[.agg #[Value.int .u64 0, .int .i64 0, .int .u32 0, .int .i64 0, .int .i64 0, .int .u32 0, .int .u32 0, .int .u32 0, .int .u32 0, .int .u32 0, .int .u32 0, .int .u32 0, .int .u32 0, .int .u32 0, .int .u32 0, .int .u32 0, .int .u32 0, .int .i64 0, .int .i64 0, .int .i64 0, .float .f64 0], .agg #[Value.int .u64 0, .int .i64 0, .int .u32 0, .int .i64 0, .int .i64 0, .int .u32 0, .int .u32 0, .int .u32 0, .int .u32 0, .int .u32 0, .int .u32 0, .int .u32 0, .int .u32 0, .int .u32 0, .int .u32 0, .int .u32 0, .int .u32 0, .int .i64 0, .int .i64 0, .int .i64 0, .float .f64 0]] w fun e w' => e = .returned (.bool true) ∧ Below w.heap.size w w' := by
  go_enter Tryz.func78, Tryz.ntmps78
  go_wp2_with (go_at_call 93; go_must (refine (sameOp_zero _).mono ?_; rintro e w1 ⟨rfl, h⟩; have HB := Aside0.mk h; clear h))
  go_ret
  exact ⟨rfl, below_step (below_alloc (below_alloc (Below.refl _ _) _) _) HB.out⟩
end Go.Proofs.YtmapdfommjcebaaGreat.Own
namespace Go.Proofs.YtmapdfommjcebaaGreat.Own
open Go.RowKit Go.Proofs.YtmapdfommjcebaaGreatW.PrintWords Go.Proofs.YtmapdfommjcebaaGreatW.PrintLast Go.Proofs.YtmapdfommjcebaaGreatW.PrintMore
attribute [local go_sem high] eqVec eqLab
theorem in_cells {w : World} {g : Nat} {a : Bool} {f t s : Int} {A : Option Addr} {n c : Nat} (h : w.heap[g]? = some (.cells #[Value.int .i64 6, .int .i64 0, .int .i64 0, .int .i64 0, .int .u32 0, .int .u32 0, .int .u32 0, .int .u32 0, .int .u32 0, .int .u32 0, .int .u32 0, .int .u32 0, .int .u32 0, .int .u32 0, .int .u32 0, .int .u32 0, .int .u64 0, .int .i64 0, .int .i64 0, .int .i64 0, .float .f64 0, .bool a, .int .i64 f, .int .i64 t, .int .u64 s, .slice A n c] 43 (0, 0))) :
    w.cell? ⟨g, 21, none⟩ = some (.bool a) ∧ w.cell? ⟨g, 22, none⟩ = some (.int .i64 f) ∧ w.cell? ⟨g, 23, none⟩ = some (.int .i64 t) ∧ w.cell? ⟨g, 24, none⟩ = some (.int .u64 s) ∧ w.cell? ⟨g, 25, none⟩ = some (.slice A n c) :=
  ⟨cell_of_row w g 21 _ _ _ h, cell_of_row w g 22 _ _ _ h, cell_of_row w g 23 _ _ _ h, cell_of_row w g 24 _ _ _ h, cell_of_row w g 25 _ _ _ h⟩
theorem SamePk_n (a : Bool) (f t s : Int) (A : Option Addr) (n c : Nat) (d : List Int) (W : World) (hn : n = d.length) (hC : (Kd.int .u8).C W A d.length d) (hc : n ≤ c) :
    Calls Tryz.prog 79 #[.agg #[Value.bool a, .int .i64 f, .int .i64 t, .int .u64 s, .slice A n c], .agg #[Value.bool a, .int .i64 f, .int .i64 t, .int .u64 s, .slice A n c]] W fun e w' => e = .returned (.bool true) ∧ Below W.heap.size W w' := by
  subst hn
  exact PTopWiped.packet_Same.calls a f t s A c d a f t s A c d true W hC hc hC hc (by unfold PTopWiped.packet_Same.f PTopWiped.bytes_Equal.f; simp)
set_option maxHeartbeats 2000000 in
set_option maxRecDepth 100000 in
theorem inSame (W : World) (a : Bool) (f t s : Int) (A : Option Addr) (n c : Nat) (d : List Int) (hn : n = d.length) (hC : (Kd.int .u8).C W A d.length d) (hc : n ≤ c) :
    Calls Tryz.prog 48 #[.agg #[Value.int .i64 6, .int .i64 0, .int .i64 0, .int .i64 0, .int .u32 0, .int .u32 0, .int .u32 0, .int .u32 0, .int .u32 0, .int .u32 0, .int .u32 0, .int .u32 0, .int .u32 0, .int .u32 0, .int .u32 0, .int .u32 0, .int .u64 0, .int .i64 0, .int .i64 0, .int .i64 0, .float .f64 0, .bool a, .int .i64 f, .int .i64 t, .int .u64 s, .slice A n c], .agg #[Value.int .i64 6, .int .i64 0, .int .i64 0, .int .i64 0, .int .u32 0, .int .u32 0, .int .u32 0, .int .u32 0, .int .u32 0, .int .u32 0, .int .u32 0, .int .u32 0, .int .u32 0, .int .u32 0, .int .u32 0, .int .u32 0, .int .u64 0, .int .i64 0, .int .i64 0, .int .i64 0, .float .f64 0, .bool a, .int .i64 f, .int .i64 t, .int .u64 s, .slice A n c]] W fun e w' => e = .returned (.bool true) ∧ Below W.heap.size W w' := by
  have HC := Aside0.mk hC
  have HN := Aside0.mk hn
  have HCC := Aside0.mk hc
  clear hC hn hc
  go_enter Tryz.func48, Tryz.ntmps48
  go_wp2_with (first
    | (go_at_call 78; go_must (refine (opSame_zero _).mono ?_; rintro e w1 ⟨rfl, h⟩; have HB := Aside0.mk (below_step (below_alloc (below_alloc (Below.refl W.heap.size W) _) _) h); obtain ⟨x0, x1, x2, x3, x4⟩ := in_cells (blk_below (blk_alloc (heap_at rfl) _) h); obtain ⟨y0, y1, y2, y3, y4⟩ := in_cells (g := W.heap.size + 1) (blk_below (heap_at (by simp)) h); clear h))
    | (go_at_call 79; go_must (refine (SamePk_n a f t s A n c d _ HN.out (Kd.C_below HC.out HB.out) HCC.out).mono ?_; rintro e w2 ⟨rfl, h⟩; have HB2 := Aside0.mk (below_step HB.out h); clear h)))
  go_ret
  exact ⟨rfl, HB2.out⟩
end Go.Proofs.YtmapdfommjcebaaGreat.Own
namespace Go.Proofs.YtmapdfommjcebaaGreat.Own
open Go.RowKit Go.Proofs.YtmapdfommjcebaaGreatW.PrintWords Go.Proofs.YtmapdfommjcebaaGreatW.PrintLast Go.Proofs.YtmapdfommjcebaaGreatW.PrintMore
theorem there_blk {w : World} {b : Nat} {cs : Array Value} {t : TypeId} (h : w.heap[b]? = some (.cells cs t (0, 0))) (o n : Nat) (hn : o + n ≤ cs.size) : w.there b o n := fun j hj => by
  refine ⟨?_, blk_frozen h _⟩
  rw [cell_of_row w b _ _ _ _ h, Array.getElem?_eq_getElem (by omega)]
  rfl
theorem range_blk {w : World} {b : Nat} {cs : List Value} {t : TypeId} (h : w.heap[b]? = some (.cells cs.toArray t (0, 0))) : w.rangeAt b 0 cs := fun j v hj => by
  rw [cell_of_row w b _ _ _ _ h, Nat.zero_add, List.getElem?_toArray]
  exact hj
theorem range_join {w : World} {b o : Nat} {xs ys : List Value} (h1 : w.rangeAt b o xs) (h2 : w.rangeAt b (o + xs.length) ys) : w.rangeAt b o (xs ++ ys) := fun j v hj => by
  by_cases hl : j < xs.length
  · exact h1 j v (by rwa [List.getElem?_append_left hl] at hj)
  · rw [List.getElem?_append_right (by omega)] at hj
    have := h2 _ v hj
    rwa [show o + xs.length + (j - xs.length) = o + j by omega] at this
theorem range_left {w : World} {b o : Nat} {xs ys : List Value} (h : w.rangeAt b o (xs ++ ys)) : w.rangeAt b o xs := fun j v hj => h j v (by rw [List.getElem?_append_left (List.getElem?_eq_some_iff.1 hj).1]; exact hj)
theorem range_right {w : World} {b o : Nat} {xs ys : List Value} (h : w.rangeAt b o (xs ++ ys)) : w.rangeAt b (o + xs.length) ys := fun j v hj => by
  have := h (xs.length + j) v (by rw [List.getElem?_append_right (by omega), Nat.add_sub_cancel_left]; exact hj)
  rwa [show o + (xs.length + j) = o + xs.length + j by omega] at this
/-- An input's cells ahead of its packet. -/
def inH : List Value := [.int .i64 6, .int .i64 0, .int .i64 0, .int .i64 0, .int .u32 0, .int .u32 0, .int .u32 0, .int .u32 0, .int .u32 0, .int .u32 0, .int .u32 0, .int .u32 0, .int .u32 0, .int .u32 0, .int .u32 0, .int .u32 0, .int .u64 0, .int .i64 0, .int .i64 0, .int .i64 0, .float .f64 0]
def inP (a : Bool) (f t s : Int) (A : Option Addr) (n c : Nat) : List Value := [.bool a, .int .i64 f, .int .i64 t, .int .u64 s, .slice A n c]
theorem in_arr (a : Bool) (f t s : Int) (A : Option Addr) (n c : Nat) : #[Value.int .i64 6, .int .i64 0, .int .i64 0, .int .i64 0, .int .u32 0, .int .u32 0, .int .u32 0, .int .u32 0, .int .u32 0, .int .u32 0, .int .u32 0, .int .u32 0, .int .u32 0, .int .u32 0, .int .u32 0, .int .u32 0, .int .u64 0, .int .i64 0, .int .i64 0, .int .i64 0, .float .f64 0, .bool a, .int .i64 f, .int .i64 t, .int .u64 s, .slice A n c] = (inH ++ inP a f t s A n c).toArray := rfl
theorem in_one (a : Bool) (f t s : Int) (A : Option Addr) (n c : Nat) : ∀ v ∈ inH ++ inP a f t s A n c, v.oneCell' = true := by
  intro _ hv
  simp only [inH, inP, List.cons_append, List.nil_append, List.mem_cons, List.not_mem_nil, or_false] at hv
  rcases hv with rfl | rfl | rfl | rfl | rfl | rfl | rfl | rfl | rfl | rfl | rfl | rfl | rfl | rfl | rfl | rfl | rfl | rfl | rfl | rfl | rfl | rfl | rfl | rfl | rfl | rfl <;> rfl
theorem info43 : (Tryz.prog.info? 43).map (·.size) = some 26 := by kernel_rfl
theorem info35 : (Tryz.prog.info? 35).map (·.size) = some 5 := by kernel_rfl
theorem below_cells {w : World} {g : Nat} (hg : w.heap.size ≤ g) : ∀ (vs : List Value) (o : Nat) {W : World}, Below w.heap.size w W → Below w.heap.size w (W.setCells g o vs)
  | [], _, _, h => h
  | _ :: r, o, _, h => below_cells hg r (o + 1) (below_set h hg)
theorem results_mid {P : Program} {fn : Func} {p : Tmp} {ty : TypeId} (h : fn.results = #[.cell p ty]) (tmps : Array Value) (w : World) (g : Nat) (cs : List Value) (d : TypeDesc)
    (hp : tmps.getD p undef = .pointer (some ⟨g, 0, none⟩)) (hg : w.rangeAt g 0 cs)
    (hu : P.underlying ty = some d) (hd : d.isRow = true) (hi : (P.info? ty).map (·.size) = some cs.length) :
    (results fn tmps).run P w = .ok (.agg cs.toArray) w := by
  have hp' : tmps[p]?.getD undef = .pointer (some ⟨g, 0, none⟩) := by simpa using hp
  simp [results, h, hp', asAddr, run_loadVar_mid w g 0 ty cs d hg hu hd hi]
theorem in_all (a : Bool) (f t s : Int) (A : Option Addr) (n c : Nat) : (#[Value.int .i64 6, .int .i64 0, .int .i64 0, .int .i64 0, .int .u32 0, .int .u32 0, .int .u32 0, .int .u32 0, .int .u32 0, .int .u32 0, .int .u32 0, .int .u32 0, .int .u32 0, .int .u32 0, .int .u32 0, .int .u32 0, .int .u64 0, .int .i64 0, .int .i64 0, .int .i64 0, .float .f64 0, .bool a, .int .i64 f, .int .i64 t, .int .u64 s, .slice A n c]).all (·.oneCell') = true := all_oneCell_toArray (in_one a f t s A n c)
theorem pk_all (a : Bool) (f t s : Int) (A : Option Addr) (n c : Nat) : (#[Value.bool a, .int .i64 f, .int .i64 t, .int .u64 s, .slice A n c]).all (·.oneCell') = true := all_oneCell_toArray fun _ hv => in_one a f t s A n c _ (List.mem_append_right inH hv)
theorem range_arr {w : World} {b : Nat} {cs : Array Value} {t : TypeId} (h : w.heap[b]? = some (.cells cs t (0, 0))) : w.rangeAt b 0 cs.toList := range_blk (cs := cs.toList) h
/-- What is so when the second own input has been written. -/
def OwnS (W w3 : World) (I Z : Array Value) : Prop :=
  w3.rangeAt W.heap.size 0 I.toList ∧ w3.there (W.heap.size + 1) 0 26 ∧ w3.rangeAt (W.heap.size + 1 + 1) 0 Z.toList ∧ w3.there (W.heap.size + 1 + 1) 0 26 ∧ Below W.heap.size W w3
theorem own_start (W : World) (I Y Z : Array Value) (hY : Y.size = 26) (hZ : Z.size = 26) :
    OwnS W ((((W.alloc (.cells I 43)).alloc (.cells Y 43)).alloc (.cells Y 43)).setCells (W.heap.size + 1 + 1) 0 Z.toList) I Z := by
  have hl : Z.toList.length = 26 := by rw [Array.length_toList, hZ]
  have hb : (((W.alloc (.cells I 43)).alloc (.cells Y 43)).alloc (.cells Y 43)).there (W.heap.size + 1 + 1) 0 26 := there_blk (t := 43) (heap_at (by simp)) 0 26 (by omega)
  have h1 : (((W.alloc (.cells I 43)).alloc (.cells Y 43)).alloc (.cells Y 43)).there (W.heap.size + 1) 0 26 := there_blk (t := 43) (blk_alloc (heap_at (by simp)) _) 0 26 (by omega)
  have h0 : (((W.alloc (.cells I 43)).alloc (.cells Y 43)).alloc (.cells Y 43)).rangeAt W.heap.size 0 I.toList := range_arr (t := 43) (blk_alloc (blk_alloc (heap_at rfl) _) _)
  exact ⟨World.rangeAt_setCells_apart h0 _ _ _ (.inl (by omega)), World.there_setCells h1 _ _ _, World.rangeAt_setCells_same _ _ _ _ (by rw [hl]; exact hb), World.there_setCells hb _ _ _,
    below_cells (by omega) _ _ (below_alloc (below_alloc (below_alloc (Below.refl _ _) _) _) _)⟩
/-- The packet's part is written. -/
theorem own_mid {W w3 : World} {I Z P H : Array Value} (h : OwnS W w3 I Z) (hP : P.size = 5) (hH : H.size = 21) (hZ : ∃ r, Z.toList = H.toList ++ r) (hI : I.toList = H.toList ++ P.toList) : OwnS W (w3.setCells (W.heap.size + 1 + 1) 21 P.toList) I I := by
  obtain ⟨h0, h1, h2, h3, h4⟩ := h
  obtain ⟨r, hr⟩ := hZ
  have hlP : P.toList.length = 5 := by rw [Array.length_toList, hP]
  have hlH : H.toList.length = 21 := by rw [Array.length_toList, hH]
  rw [hr] at h2
  refine ⟨World.rangeAt_setCells_apart h0 _ _ _ (.inl (by omega)), World.there_setCells h1 _ _ _, ?_, World.there_setCells h3 _ _ _, below_cells (by omega) _ _ h4⟩
  rw [hI]
  refine range_join (World.rangeAt_setCells_apart (range_left h2) _ _ _ (.inr (.inl (by omega)))) ?_
  rw [hlH]
  exact World.rangeAt_setCells_same _ _ _ _ fun j hj => by
    have := h3 (21 + j) (by omega)
    rwa [show 0 + (21 + j) = 21 + j by omega] at this
theorem in_split (a : Bool) (f t s : Int) (A : Option Addr) (n c : Nat) : (#[Value.int .i64 6, .int .i64 0, .int .i64 0, .int .i64 0, .int .u32 0, .int .u32 0, .int .u32 0, .int .u32 0, .int .u32 0, .int .u32 0, .int .u32 0, .int .u32 0, .int .u32 0, .int .u32 0, .int .u32 0, .int .u32 0, .int .u64 0, .int .i64 0, .int .i64 0, .int .i64 0, .float .f64 0, .bool a, .int .i64 f, .int .i64 t, .int .u64 s, .slice A n c]).toList = inH.toArray.toList ++ (#[Value.bool a, .int .i64 f, .int .i64 t, .int .u64 s, .slice A n c]).toList := rfl
theorem own_mid' {W w3 : World} {a : Bool} {f t s : Int} {A : Option Addr} {n c : Nat} (h : OwnS W w3 #[Value.int .i64 6, .int .i64 0, .int .i64 0, .int .i64 0, .int .u32 0, .int .u32 0, .int .u32 0, .int .u32 0, .int .u32 0, .int .u32 0, .int .u32 0, .int .u32 0, .int .u32 0, .int .u32 0, .int .u32 0, .int .u32 0, .int .u64 0, .int .i64 0, .int .i64 0, .int .i64 0, .float .f64 0, .bool a, .int .i64 f, .int .i64 t, .int .u64 s, .slice A n c] #[Value.int .i64 6, .int .i64 0, .int .i64 0, .int .i64 0, .int .u32 0, .int .u32 0, .int .u32 0, .int .u32 0, .int .u32 0, .int .u32 0, .int .u32 0, .int .u32 0, .int .u32 0, .int .u32 0, .int .u32 0, .int .u32 0, .int .u64 0, .int .i64 0, .int .i64 0, .int .i64 0, .float .f64 0, .bool false, .int .i64 0, .int .i64 0, .int .u64 0, .slice none 0 0]) : OwnS W (w3.setCells (W.heap.size + 1 + 1) 21 (#[Value.bool a, .int .i64 f, .int .i64 t, .int .u64 s, .slice A n c]).toList) #[Value.int .i64 6, .int .i64 0, .int .i64 0, .int .i64 0, .int .u32 0, .int .u32 0, .int .u32 0, .int .u32 0, .int .u32 0, .int .u32 0, .int .u32 0, .int .u32 0, .int .u32 0, .int .u32 0, .int .u32 0, .int .u32 0, .int .u64 0, .int .i64 0, .int .i64 0, .int .i64 0, .float .f64 0, .bool a, .int .i64 f, .int .i64 t, .int .u64 s, .slice A n c] #[Value.int .i64 6, .int .i64 0, .int .i64 0, .int .i64 0, .int .u32 0, .int .u32 0, .int .u32 0, .int .u32 0, .int .u32 0, .int .u32 0, .int .u32 0, .int .u32 0, .int .u32 0, .int .u32 0, .int .u32 0, .int .u32 0, .int .u64 0, .int .i64 0, .int .i64 0, .int .i64 0, .float .f64 0, .bool a, .int .i64 f, .int .i64 t, .int .u64 s, .slice A n c] :=
  own_mid h (H := inH.toArray) rfl rfl ⟨_, in_split false 0 0 0 none 0 0⟩ (in_split a f t s A n c)
theorem own_end {W w4 : World} {I Z : Array Value} (h : OwnS W w4 I Z) (hZ : Z.size = 26) : (w4.setCells (W.heap.size + 1) 0 Z.toList).rangeAt (W.heap.size + 1) 0 Z.toList ∧ Below W.heap.size W (w4.setCells (W.heap.size + 1) 0 Z.toList) :=
  ⟨World.rangeAt_setCells_same _ _ _ _ (by rw [Array.length_toList, hZ]; exact h.2.1), below_cells (by omega) _ _ h.2.2.2.2⟩
theorem own_cells {W w3 : World} {a : Bool} {f t s : Int} {A : Option Addr} {n c : Nat} {Z : Array Value} (h : OwnS W w3 #[Value.int .i64 6, .int .i64 0, .int .i64 0, .int .i64 0, .int .u32 0, .int .u32 0, .int .u32 0, .int .u32 0, .int .u32 0, .int .u32 0, .int .u32 0, .int .u32 0, .int .u32 0, .int .u32 0, .int .u32 0, .int .u32 0, .int .u64 0, .int .i64 0, .int .i64 0, .int .i64 0, .float .f64 0, .bool a, .int .i64 f, .int .i64 t, .int .u64 s, .slice A n c] Z) :
    w3.cell? ⟨W.heap.size, 0, none⟩ = some (.int .i64 6) ∧ w3.cell? ⟨W.heap.size, 21, none⟩ = some (.bool a) ∧ w3.cell? ⟨W.heap.size, 22, none⟩ = some (.int .i64 f) ∧ w3.cell? ⟨W.heap.size, 23, none⟩ = some (.int .i64 t) ∧ w3.cell? ⟨W.heap.size, 24, none⟩ = some (.int .u64 s) ∧ w3.cell? ⟨W.heap.size, 25, none⟩ = some (.slice A n c) :=
  ⟨h.1 0 _ rfl, h.1 21 _ rfl, h.1 22 _ rfl, h.1 23 _ rfl, h.1 24 _ rfl, h.1 25 _ rfl⟩
theorem own_there {W w3 : World} {I Z : Array Value} (h : OwnS W w3 I Z) : w3.there (W.heap.size + 1 + 1) 21 5 := fun j hj => by
  have := h.2.2.2.1 (21 + j) (by omega)
  rwa [show 0 + (21 + j) = 21 + j by omega] at this
set_option maxHeartbeats 600000 in
set_option maxRecDepth 100000 in
theorem inOwn (W : World) (a : Bool) (f t s : Int) (A : Option Addr) (n c : Nat) :
    Calls Tryz.prog 49 #[.agg #[Value.int .i64 6, .int .i64 0, .int .i64 0, .int .i64 0, .int .u32 0, .int .u32 0, .int .u32 0, .int .u32 0, .int .u32 0, .int .u32 0, .int .u32 0, .int .u32 0, .int .u32 0, .int .u32 0, .int .u32 0, .int .u32 0, .int .u64 0, .int .i64 0, .int .i64 0, .int .i64 0, .float .f64 0, .bool a, .int .i64 f, .int .i64 t, .int .u64 s, .slice A n c]] W fun e w' => e = .returned (.agg #[Value.int .i64 6, .int .i64 0, .int .i64 0, .int .i64 0, .int .u32 0, .int .u32 0, .int .u32 0, .int .u32 0, .int .u32 0, .int .u32 0, .int .u32 0, .int .u32 0, .int .u32 0, .int .u32 0, .int .u32 0, .int .u32 0, .int .u64 0, .int .i64 0, .int .i64 0, .int .i64 0, .float .f64 0, .bool a, .int .i64 f, .int .i64 t, .int .u64 s, .slice A n c]) ∧ Below W.heap.size W w' := by
  have HO := Aside0.mk (own_start W #[Value.int .i64 6, .int .i64 0, .int .i64 0, .int .i64 0, .int .u32 0, .int .u32 0, .int .u32 0, .int .u32 0, .int .u32 0, .int .u32 0, .int .u32 0, .int .u32 0, .int .u32 0, .int .u32 0, .int .u32 0, .int .u32 0, .int .u64 0, .int .i64 0, .int .i64 0, .int .i64 0, .float .f64 0, .bool a, .int .i64 f, .int .i64 t, .int .u64 s, .slice A n c] #[Value.int .i64 0, .int .i64 0, .int .i64 0, .int .i64 0, .int .u32 0, .int .u32 0, .int .u32 0, .int .u32 0, .int .u32 0, .int .u32 0, .int .u32 0, .int .u32 0, .int .u32 0, .int .u32 0, .int .u32 0, .int .u32 0, .int .u64 0, .int .i64 0, .int .i64 0, .int .i64 0, .float .f64 0, .bool false, .int .i64 0, .int .i64 0, .int .u64 0, .slice none 0 0] #[Value.int .i64 6, .int .i64 0, .int .i64 0, .int .i64 0, .int .u32 0, .int .u32 0, .int .u32 0, .int .u32 0, .int .u32 0, .int .u32 0, .int .u32 0, .int .u32 0, .int .u32 0, .int .u32 0, .int .u32 0, .int .u32 0, .int .u64 0, .int .i64 0, .int .i64 0, .int .i64 0, .float .f64 0, .bool false, .int .i64 0, .int .i64 0, .int .u64 0, .slice none 0 0] rfl rfl)
  go_enter Tryz.func49, Tryz.ntmps49
  go_wp2_with (first
    | (refine (show wpList _ _ _ (⟨_, .store 43 (.tmp 3) (.tmp 6), _, _, _, _⟩ :: _) _ _ from ?_); refine wpList_store_mid (P := Tryz.prog) rfl 43 (.tmp 3) (.tmp 6) rfl (W.heap.size + 1 + 1) 0 #[Value.int .i64 6, .int .i64 0, .int .i64 0, .int .i64 0, .int .u32 0, .int .u32 0, .int .u32 0, .int .u32 0, .int .u32 0, .int .u32 0, .int .u32 0, .int .u32 0, .int .u32 0, .int .u32 0, .int .u32 0, .int .u32 0, .int .u64 0, .int .i64 0, .int .i64 0, .int .i64 0, .float .f64 0, .bool false, .int .i64 0, .int .i64 0, .int .u64 0, .slice none 0 0] rfl rfl (there_blk (heap_at (by simp)) 0 26 (by decide)) info43 (in_all false 0 0 0 none 0 0) ?_;
       generalize World.setCells _ _ _ _ = w3 at HO ⊢;
       obtain ⟨m0, x0, x1, x2, x3, x4⟩ := own_cells HO.out)
    | (refine (show wpList _ _ _ (⟨_, .store 35 (.tmp 55) (.tmp 54), _, _, _, _⟩ :: _) _ _ from ?_); refine wpList_store_mid (P := Tryz.prog) rfl 35 (.tmp 55) (.tmp 54) rfl (W.heap.size + 1 + 1) 21 #[Value.bool a, .int .i64 f, .int .i64 t, .int .u64 s, .slice A n c] rfl rfl (own_there HO.out) info35 (pk_all a f t s A n c) ?_;
       have HM := Aside0.mk (own_mid' HO.out);
       clear HO m0 x0 x1 x2 x3 x4;
       generalize World.setCells _ _ _ _ = w4 at HM ⊢)
    | (refine (show wpList _ _ _ (⟨_, .load 43 (.tmp 3), _, _, _, _⟩ :: _) _ _ from ?_); refine wpList_load_mid (P := Tryz.prog) rfl 43 (.tmp 3) rfl (W.heap.size + 1 + 1) 0 rfl (#[Value.int .i64 6, .int .i64 0, .int .i64 0, .int .i64 0, .int .u32 0, .int .u32 0, .int .u32 0, .int .u32 0, .int .u32 0, .int .u32 0, .int .u32 0, .int .u32 0, .int .u32 0, .int .u32 0, .int .u32 0, .int .u32 0, .int .u64 0, .int .i64 0, .int .i64 0, .int .i64 0, .float .f64 0, .bool a, .int .i64 f, .int .i64 t, .int .u64 s, .slice A n c]).toList _ HM.out.2.2.1 Tryz.underlying43 rfl info43 ?_)
    | (refine (show wpList _ _ _ (⟨_, .store 43 (.tmp 2) (.tmp 56), _, _, _, _⟩ :: _) _ _ from ?_); refine wpList_store_mid (P := Tryz.prog) rfl 43 (.tmp 2) (.tmp 56) rfl (W.heap.size + 1) 0 #[Value.int .i64 6, .int .i64 0, .int .i64 0, .int .i64 0, .int .u32 0, .int .u32 0, .int .u32 0, .int .u32 0, .int .u32 0, .int .u32 0, .int .u32 0, .int .u32 0, .int .u32 0, .int .u32 0, .int .u32 0, .int .u32 0, .int .u64 0, .int .i64 0, .int .i64 0, .int .i64 0, .float .f64 0, .bool a, .int .i64 f, .int .i64 t, .int .u64 s, .slice A n c] rfl rfl HM.out.2.1 info43 (in_all a f t s A n c) ?_;
       have HE := Aside0.mk (own_end HM.out rfl);
       clear HM;
       generalize World.setCells _ _ _ _ = w5 at HE ⊢))
  refine bodyPost_ret (results_mid rfl _ _ (W.heap.size + 1) (#[Value.int .i64 6, .int .i64 0, .int .i64 0, .int .i64 0, .int .u32 0, .int .u32 0, .int .u32 0, .int .u32 0, .int .u32 0, .int .u32 0, .int .u32 0, .int .u32 0, .int .u32 0, .int .u32 0, .int .u32 0, .int .u32 0, .int .u64 0, .int .i64 0, .int .i64 0, .int .i64 0, .float .f64 0, .bool a, .int .i64 f, .int .i64 t, .int .u64 s, .slice A n c]).toList _ rfl HE.out.1 Tryz.underlying43 rfl info43) rfl ?_
  exact ⟨rfl, HE.out.2⟩
end Go.Proofs.YtmapdfommjcebaaGreat.Own
namespace Go.Proofs.YtmapdfommjcebaaGreat.Own
open Go.RowKit Go.Proofs.YtmapdfommjcebaaGreatW.PrintWords Go.Proofs.YtmapdfommjcebaaGreatW.PrintLast Go.Proofs.YtmapdfommjcebaaGreatW.PrintMore
theorem range_below {w w' : World} {b o : Nat} {cs : List Value} (h : w.rangeAt b o cs) (hb : Below w.heap.size w w') : w'.rangeAt b o cs := fun j v hj => pw_cell_below hb (h j v hj)
/-- An input stands where a pointer points. -/
def IsIn (w : World) (v : Value) : Prop := ∃ g cs, v = .pointer (some ⟨g, 0, none⟩) ∧ cs.length = 26 ∧ w.rangeAt g 0 cs
def theIn (w : World) : Value → Value
  | .pointer (some x) => .agg ((List.range 26).map fun j => (w.cell? ⟨x.block, j, none⟩).getD undef).toArray
  | _ => undef
theorem theIn_of {w : World} {g : Nat} {cs : List Value} (hl : cs.length = 26) (h : w.rangeAt g 0 cs) : theIn w (.pointer (some ⟨g, 0, none⟩)) = .agg cs.toArray := by
  have : ((List.range 26).map fun j => (w.cell? ⟨g, j, none⟩).getD undef) = cs := by
    refine List.ext_getElem (by simp [hl]) fun j h1 h2 => ?_
    have := h j _ (List.getElem?_eq_getElem h2)
    rw [Nat.zero_add] at this
    simp [this]
  exact congrArg (fun l : List Value => Value.agg l.toArray) this
theorem loadIn {w : World} {f : Operand → Value} {dst : Option Tmp} {x : Operand} {ty : TypeId} {pos : String} {after : Array Edge} {gd : Option (Nat × Bool)} (h : IsIn w (f x)) :
    (execOp f { dst := dst, op := Op.load 43 x, type := ty, pos := pos, after := after, guard := gd }).run Tryz.prog w = .ok (.value (theIn w (f x))) w := by
  obtain ⟨g, cs, e, hl, h⟩ := h
  rw [e, theIn_of hl h]
  unfold execOp
  simp only [e, Instr.loadAt, Instr.sureAddr, Sem.run_bind, Sem.run_pure, Result.andThen_ok, run_loadVar_mid w g 0 43 cs _ h Tryz.underlying43 rfl (by rw [hl]; exact info43)]
attribute [local go_sem ↓ high] loadIn
set_option maxHeartbeats 2000000 in
set_option maxRecDepth 100000 in
theorem inRight_yes (W : World) (a : Bool) (f t s : Int) (A : Option Addr) (n c : Nat) (d : List Int) (hn : n = d.length) (hC : (Kd.int .u8).C W A d.length d) (hc : n ≤ c) (hr : PTopWiped.packet_Right.f a f t s d = some true) :
    Calls Tryz.prog 19 #[.agg #[Value.int .i64 6, .int .i64 0, .int .i64 0, .int .i64 0, .int .u32 0, .int .u32 0, .int .u32 0, .int .u32 0, .int .u32 0, .int .u32 0, .int .u32 0, .int .u32 0, .int .u32 0, .int .u32 0, .int .u32 0, .int .u32 0, .int .u64 0, .int .i64 0, .int .i64 0, .int .i64 0, .float .f64 0, .bool a, .int .i64 f, .int .i64 t, .int .u64 s, .slice A n c]] W fun e w' => e = .returned (.bool true) ∧ Below W.heap.size W w' := by
  have HC := Aside0.mk hC
  have HN := Aside0.mk hn
  have HCC := Aside0.mk hc
  have HR := Aside0.mk hr
  have HX := Aside0.mk (heap_at (w := W) (o := .cells #[Value.int .i64 6, .int .i64 0, .int .i64 0, .int .i64 0, .int .u32 0, .int .u32 0, .int .u32 0, .int .u32 0, .int .u32 0, .int .u32 0, .int .u32 0, .int .u32 0, .int .u32 0, .int .u32 0, .int .u32 0, .int .u32 0, .int .u64 0, .int .i64 0, .int .i64 0, .int .i64 0, .float .f64 0, .bool a, .int .i64 f, .int .i64 t, .int .u64 s, .slice A n c] 43) (g := W.heap.size) rfl)
  have HB := Aside0.mk (below_alloc (Below.refl W.heap.size W) (.cells #[Value.int .i64 6, .int .i64 0, .int .i64 0, .int .i64 0, .int .u32 0, .int .u32 0, .int .u32 0, .int .u32 0, .int .u32 0, .int .u32 0, .int .u32 0, .int .u32 0, .int .u32 0, .int .u32 0, .int .u32 0, .int .u32 0, .int .u64 0, .int .i64 0, .int .i64 0, .int .i64 0, .float .f64 0, .bool a, .int .i64 f, .int .i64 t, .int .u64 s, .slice A n c] 43))
  clear hC hn hc hr
  go_enter Tryz.func19, Tryz.ntmps19
  go_wp2_with (first
    | (go_at_call 47; go_must (refine (Right_n a f t s A n c d true _ HN.out (Kd.C_below HC.out HB.out) HCC.out HR.out).mono ?_; rintro e w1 ⟨rfl, h⟩; have HB1 := Aside0.mk (below_step HB.out h); have HX1 := Aside0.mk (blk_below HX.out h); clear h HB HX)))
  obtain ⟨cs, hcs⟩ : ∃ cs, cs = (#[Value.int .i64 6, .int .i64 0, .int .i64 0, .int .i64 0, .int .u32 0, .int .u32 0, .int .u32 0, .int .u32 0, .int .u32 0, .int .u32 0, .int .u32 0, .int .u32 0, .int .u32 0, .int .u32 0, .int .u32 0, .int .u32 0, .int .u64 0, .int .i64 0, .int .i64 0, .int .i64 0, .float .f64 0, .bool a, .int .i64 f, .int .i64 t, .int .u64 s, .slice A n c]).toList := ⟨_, rfl⟩
  have HCS := Aside0.mk (show Value.agg cs.toArray = Value.agg #[Value.int .i64 6, .int .i64 0, .int .i64 0, .int .i64 0, .int .u32 0, .int .u32 0, .int .u32 0, .int .u32 0, .int .u32 0, .int .u32 0, .int .u32 0, .int .u32 0, .int .u32 0, .int .u32 0, .int .u32 0, .int .u32 0, .int .u64 0, .int .i64 0, .int .i64 0, .int .i64 0, .float .f64 0, .bool a, .int .i64 f, .int .i64 t, .int .u64 s, .slice A n c] by rw [hcs])
  have HL43 := Aside0.mk (show cs.length = 26 by rw [hcs]; rfl)
  have HX2 := Aside0.mk (show w1.drew.rangeAt W.heap.size 0 cs by rw [hcs]; exact range_arr (blk_drew HX1.out))
  clear hcs HX1
  go_region_held3 (fun w' => IsIn w' (.pointer (some ⟨W.heap.size, 0, none⟩)) ∧ theIn w' (.pointer (some ⟨W.heap.size, 0, none⟩)) = .agg cs.toArray)
    (first | (focus (exact ⟨⟨_, cs, rfl, HL43.out, HX2.out⟩, theIn_of HL43.out HX2.out⟩); done))
    (first
      | (go_at_call 49; rw [HCS.out]; go_must (refine (inOwn _ a f t s A n c).mono ?_; rintro e w2 ⟨rfl, h⟩; have HB2 := Aside0.mk (below_step HB1.out.drew h); have HX3 := Aside0.mk (range_below HX2.out h); clear h HB1 HX2; have HB1 := HB2; have HX2 := HX3; clear HB2 HX3))
      | (go_at_call 48; (try rw [HCS.out]); go_must (refine (inSame _ a f t s A n c d HN.out (Kd.C_below HC.out HB1.out) HCC.out).mono ?_; rintro e w3 ⟨rfl, h⟩; have HB2 := Aside0.mk (below_step HB1.out h); have HX3 := Aside0.mk (range_below HX2.out h); clear h HB1 HX2; have HB1 := HB2; have HX2 := HX3; clear HB2 HX3)))
  all_goals (go_wp2_with fail)
  all_goals go_ret
  all_goals exact ⟨rfl, HB1.out⟩
end Go.Proofs.YtmapdfommjcebaaGreat.Own
namespace Go.Proofs.YtmapdfommjcebaaGreat.Own
open Go.RowKit Go.Proofs.YtmapdfommjcebaaGreatW.PrintWords Go.Proofs.YtmapdfommjcebaaGreatW.PrintLast Go.Proofs.YtmapdfommjcebaaGreatW.PrintMore
theorem right_some (a : Bool) (f t s : Int) (d : List Int) : ∃ r, PTopWiped.packet_Right.f a f t s d = some r := by
  unfold PTopWiped.packet_Right.f PTopWiped.packet_isNode.f PTopWiped.packet_isData.f
  by_cases h1 : f ≥ 1 <;> by_cases h2 : f ≤ 12 <;> by_cases h3 : t ≥ 1 <;> by_cases h4 : t ≤ 12 <;> by_cases h5 : f = t <;> by_cases h6 : s ≥ 1 <;> by_cases h7 : s ≤ 1099511627776 <;> cases a <;> by_cases h8 : 1 ≤ (d.length : Int) <;> simp [*]
set_option maxHeartbeats 2000000 in
set_option maxRecDepth 100000 in
theorem inRight_no (W : World) (a : Bool) (f t s : Int) (A : Option Addr) (n c : Nat) (d : List Int) (hn : n = d.length) (hC : (Kd.int .u8).C W A d.length d) (hc : n ≤ c) (hr : PTopWiped.packet_Right.f a f t s d = some false) :
    Calls Tryz.prog 19 #[.agg #[Value.int .i64 6, .int .i64 0, .int .i64 0, .int .i64 0, .int .u32 0, .int .u32 0, .int .u32 0, .int .u32 0, .int .u32 0, .int .u32 0, .int .u32 0, .int .u32 0, .int .u32 0, .int .u32 0, .int .u32 0, .int .u32 0, .int .u64 0, .int .i64 0, .int .i64 0, .int .i64 0, .float .f64 0, .bool a, .int .i64 f, .int .i64 t, .int .u64 s, .slice A n c]] W fun e w' => e = .returned (.bool false) ∧ Below W.heap.size W w' := by
  have HC := Aside0.mk hC
  have HN := Aside0.mk hn
  have HCC := Aside0.mk hc
  have HR := Aside0.mk hr
  have HB := Aside0.mk (below_alloc (Below.refl W.heap.size W) (.cells #[Value.int .i64 6, .int .i64 0, .int .i64 0, .int .i64 0, .int .u32 0, .int .u32 0, .int .u32 0, .int .u32 0, .int .u32 0, .int .u32 0, .int .u32 0, .int .u32 0, .int .u32 0, .int .u32 0, .int .u32 0, .int .u32 0, .int .u64 0, .int .i64 0, .int .i64 0, .int .i64 0, .float .f64 0, .bool a, .int .i64 f, .int .i64 t, .int .u64 s, .slice A n c] 43))
  clear hC hn hc hr
  go_enter Tryz.func19, Tryz.ntmps19
  go_wp2_with (first
    | (go_at_call 47; go_must (refine (Right_n a f t s A n c d false _ HN.out (Kd.C_below HC.out HB.out) HCC.out HR.out).mono ?_; rintro e w1 ⟨rfl, h⟩; have HB1 := Aside0.mk (below_step HB.out h); clear h HB)))
  go_region
  all_goals (go_wp2_with fail)
  all_goals go_ret
  all_goals exact ⟨rfl, HB1.out.drew⟩
/-- What an input's bytes come to. -/
def WriteP (W : World) (e : Ending) (w' : World) : Prop :=
  ∃ (A : Option Addr) (c : Nat) (l : List Int) (er : Int), e = .returned (.tuple #[.slice A l.length c, .int .i64 er]) ∧ l.length ≤ c ∧ (Kd.int .u8).C w' A l.length l ∧ Byt l ∧ l.length ≤ 1800 ∧ Below W.heap.size W w'
theorem WriteP.bad {W w' : World} (hb : Below W.heap.size W w') : WriteP W (.returned (.tuple #[.slice none 0 0, .int .i64 3])) w' := ⟨none, 0, [], 3, rfl, Nat.le_refl _, Kd.C_nil _ _, Byt.nil, by simp, hb⟩
set_option maxHeartbeats 2000000 in
set_option maxRecDepth 100000 in
theorem inWrite_no (W : World) (a : Bool) (f t s : Int) (A : Option Addr) (n c : Nat) (d : List Int) (hn : n = d.length) (hC : (Kd.int .u8).C W A d.length d) (hc : n ≤ c) (hr : PTopWiped.packet_Right.f a f t s d = some false) :
    Calls Tryz.prog 6 #[.agg #[Value.int .i64 6, .int .i64 0, .int .i64 0, .int .i64 0, .int .u32 0, .int .u32 0, .int .u32 0, .int .u32 0, .int .u32 0, .int .u32 0, .int .u32 0, .int .u32 0, .int .u32 0, .int .u32 0, .int .u32 0, .int .u32 0, .int .u64 0, .int .i64 0, .int .i64 0, .int .i64 0, .float .f64 0, .bool a, .int .i64 f, .int .i64 t, .int .u64 s, .slice A n c]] W (WriteP W) := by
  have HB := Aside0.mk (below_alloc (Below.refl W.heap.size W) (.cells #[Value.int .i64 6, .int .i64 0, .int .i64 0, .int .i64 0, .int .u32 0, .int .u32 0, .int .u32 0, .int .u32 0, .int .u32 0, .int .u32 0, .int .u32 0, .int .u32 0, .int .u32 0, .int .u32 0, .int .u32 0, .int .u32 0, .int .u64 0, .int .i64 0, .int .i64 0, .int .i64 0, .float .f64 0, .bool a, .int .i64 f, .int .i64 t, .int .u64 s, .slice A n c] 43))
  have HX := Aside0.mk (heap_at (w := W) (o := .cells #[Value.int .i64 6, .int .i64 0, .int .i64 0, .int .i64 0, .int .u32 0, .int .u32 0, .int .u32 0, .int .u32 0, .int .u32 0, .int .u32 0, .int .u32 0, .int .u32 0, .int .u32 0, .int .u32 0, .int .u32 0, .int .u32 0, .int .u64 0, .int .i64 0, .int .i64 0, .int .i64 0, .float .f64 0, .bool a, .int .i64 f, .int .i64 t, .int .u64 s, .slice A n c] 43) (g := W.heap.size) rfl)
  have HC := Aside0.mk hC
  have HN := Aside0.mk hn
  have HCC := Aside0.mk hc
  have HR := Aside0.mk hr
  clear hC hn hc hr
  go_enter Tryz.func6, Tryz.ntmps6
  go_wp2_with (first
    | (refine (show wpList _ _ _ (⟨_, .load 43 (.tmp 1), _, _, _, _⟩ :: _) _ _ from ?_); refine wpList_load_mid (P := Tryz.prog) rfl 43 (.tmp 1) rfl W.heap.size 0 rfl (#[Value.int .i64 6, .int .i64 0, .int .i64 0, .int .i64 0, .int .u32 0, .int .u32 0, .int .u32 0, .int .u32 0, .int .u32 0, .int .u32 0, .int .u32 0, .int .u32 0, .int .u32 0, .int .u32 0, .int .u32 0, .int .u32 0, .int .u64 0, .int .i64 0, .int .i64 0, .int .i64 0, .float .f64 0, .bool a, .int .i64 f, .int .i64 t, .int .u64 s, .slice A n c]).toList _ (range_arr HX.out) Tryz.underlying43 rfl info43 ?_)
    | (go_at_call 19; go_must (refine (inRight_no _ a f t s A n c d HN.out (Kd.C_below HC.out HB.out) HCC.out HR.out).mono ?_; rintro e w1 ⟨rfl, h⟩; have HB1 := Aside0.mk (below_step HB.out h); clear h HB HX)))
  go_ret2
  exact WriteP.bad HB1.out
set_option maxHeartbeats 2000000 in
set_option maxRecDepth 100000 in
theorem inWrite_yes (W : World) (a : Bool) (f t s : Int) (A : Option Addr) (n c : Nat) (d : List Int) (hn : n = d.length) (hC : (Kd.int .u8).C W A d.length d) (hc : n ≤ c) (hd : Byt d) (hr : PTopWiped.packet_Right.f a f t s d = some true) :
    Calls Tryz.prog 6 #[.agg #[Value.int .i64 6, .int .i64 0, .int .i64 0, .int .i64 0, .int .u32 0, .int .u32 0, .int .u32 0, .int .u32 0, .int .u32 0, .int .u32 0, .int .u32 0, .int .u32 0, .int .u32 0, .int .u32 0, .int .u32 0, .int .u32 0, .int .u64 0, .int .i64 0, .int .i64 0, .int .i64 0, .float .f64 0, .bool a, .int .i64 f, .int .i64 t, .int .u64 s, .slice A n c]] W (WriteP W) := by
  have HH := Aside0.mk ((Here.nil W).newCells #[Value.int .i64 6, .int .i64 0, .int .i64 0, .int .i64 0, .int .u32 0, .int .u32 0, .int .u32 0, .int .u32 0, .int .u32 0, .int .u32 0, .int .u32 0, .int .u32 0, .int .u32 0, .int .u32 0, .int .u32 0, .int .u32 0, .int .u64 0, .int .i64 0, .int .i64 0, .int .i64 0, .float .f64 0, .bool a, .int .i64 f, .int .i64 t, .int .u64 s, .slice A n c] 43)
  have HC := Aside0.mk hC
  have HN := Aside0.mk hn
  have HCC := Aside0.mk hc
  have HR := Aside0.mk hr
  have HD := Aside0.mk hd
  clear hC hn hc hr hd
  go_enter Tryz.func6, Tryz.ntmps6
  go_wp2_with (first
    | (refine (show wpList _ _ _ (⟨_, .load 43 (.tmp 1), _, _, _, _⟩ :: _) _ _ from ?_); refine wpList_load_mid (P := Tryz.prog) rfl 43 (.tmp 1) rfl W.heap.size 0 rfl (#[Value.int .i64 6, .int .i64 0, .int .i64 0, .int .i64 0, .int .u32 0, .int .u32 0, .int .u32 0, .int .u32 0, .int .u32 0, .int .u32 0, .int .u32 0, .int .u32 0, .int .u32 0, .int .u32 0, .int .u32 0, .int .u32 0, .int .u64 0, .int .i64 0, .int .i64 0, .int .i64 0, .float .f64 0, .bool a, .int .i64 f, .int .i64 t, .int .u64 s, .slice A n c]).toList _ (range_arr HH.out.cells) Tryz.underlying43 rfl info43 ?_)
    | (go_at_call 19; go_must (refine (inRight_yes _ a f t s A n c d HN.out (Kd.C_below HC.out HH.out.below) HCC.out HR.out).mono ?_; rintro e w1 ⟨rfl, h⟩; have HH1 := Aside0.mk (HH.out.then_ h).drew; clear h HH)))
  go_region_held3 (fun w' => w'.cell? ⟨W.heap.size, 0, none⟩ = some (.int .i64 6))
    (first | (focus (exact cell_of_row _ W.heap.size 0 _ _ _ HH1.out.cells; done)) | (focus (exact cell_of_row _ W.heap.size 0 _ _ _ (Here.nth HH1.out 2 (by simp)).cells; done)))
    (first
      | (go_at_call 20; go_must (refine (wireNew_here HH1.out).mono ?_; rintro e w2 ⟨g, rfl, h⟩; have HH2 := Aside0.mk h; clear h HH1; have HH1 := HH2; clear HH2))
      | (go_at_call 21; go_must (refine (Num_here HH1.out 6 (by omega) (by omega) Byt.nil (Nat.zero_le _)).mono ?_; rintro e w3 ⟨rfl, v3, l3, hy, hl, h⟩; have HY3 := Aside0.mk hy; have HL3 := Aside0.mk hl; have HH2 := Aside0.mk h; clear hy hl h HH1; have HH1 := HH2; clear HH2)))
  obtain ⟨x0, x1, x2, x3, x4⟩ := in_cells (Here.nth HH1.out 2 (by simp)).cells
  have c0 := cell_of_row _ W.heap.size 0 _ _ _ (Here.nth HH1.out 2 (by simp)).cells
  go_wp2_with (first
    | (go_at_call 24; go_must (refine (packetWrite_here HH1.out a f t s A n c d HN.out HCC.out (fun W' h => Kd.C_below HC.out h.below) HD.out HR.out).mono ?_; rintro e w4 ⟨u, l4, rfl, hy, hl, h⟩; obtain ⟨A4, c4, rfl, hc4, hC4⟩ := OwnB.slice h.bytes; have HY4 := Aside0.mk hy; have HL4 := Aside0.mk hl; have HH2 := Aside0.mk h.third.third; clear hy hl h hc4 hC4 HH1 x0 x1 x2 x3 x4 c0))
    | (go_at_call 25; go_must (refine (Text_here HH2.out A4 l4.length c4 l4 rfl (fun W' h => bytes_of h) (by have := HL4.out; omega) HY3.out HY4.out (by have := HL3.out; simp only [List.length_nil] at this; omega)).mono ?_; rintro e w5 ⟨rfl, v5, l5, hy, hl, h⟩; have HY5 := Aside0.mk hy; have HL5 := Aside0.mk (show l5.length ≤ 100000 by have h1 := HL3.out; have h2 := HL4.out; simp only [List.length_nil] at h1; omega); have HH3 := Aside0.mk h; clear hy hl h HH2))
    | (go_at_call 26; go_must (refine (Bytes_here HH3.out (by have := HL5.out; omega)).mono ?_; rintro e w6 ⟨u6, rfl, h⟩; obtain ⟨A6, c6, rfl, hc6, hC6⟩ := OwnB.slice h.bytes; have HC6 := Aside0.mk hC6; have HK6 := Aside0.mk hc6; have HB6 := Aside0.mk h.below; clear h hc6 hC6 HH3)))
  · go_ret2
    exact WriteP.bad HB6.out
  · go_ret2
    exact ⟨A6, c6, l5, 0, rfl, HK6.out, HC6.out, HY5.out, by omega, HB6.out⟩
theorem inWrite (W : World) (a : Bool) (f t s : Int) (A : Option Addr) (n c : Nat) (d : List Int) (hn : n = d.length) (hC : (Kd.int .u8).C W A d.length d) (hc : n ≤ c) (hd : Byt d) :
    Calls Tryz.prog 6 #[.agg #[Value.int .i64 6, .int .i64 0, .int .i64 0, .int .i64 0, .int .u32 0, .int .u32 0, .int .u32 0, .int .u32 0, .int .u32 0, .int .u32 0, .int .u32 0, .int .u32 0, .int .u32 0, .int .u32 0, .int .u32 0, .int .u32 0, .int .u64 0, .int .i64 0, .int .i64 0, .int .i64 0, .float .f64 0, .bool a, .int .i64 f, .int .i64 t, .int .u64 s, .slice A n c]] W (WriteP W) := by
  obtain ⟨r, hr⟩ := right_some a f t s d
  cases r
  · exact inWrite_no W a f t s A n c d hn hC hc hr
  · exact inWrite_yes W a f t s A n c d hn hC hc hd hr
end Go.Proofs.YtmapdfommjcebaaGreat.Own
