/- A state of the fixed tree, new. A node of the fixed tree, new. A cluster of the fixed tree, new. The fixed tree itself; what reads a cluster; a fixed cluster is made. -/
import Derived.Test.YtmapdfommjcebaaGreatTrC
import Derived.Test.YtmapdfommjcebaaGreatLog1
import Derived.Deep.RegionHeld3
namespace Go.Proofs.YtmapdfommjcebaaGreat.Own
open Go.RowKit Go.Proofs.YtmapdfommjcebaaGreatW.PrintWords Go.Proofs.YtmapdfommjcebaaGreatW.PrintLast Go.Proofs.YtmapdfommjcebaaGreatW.PrintMore
open PTopWiped
theorem PtrAt.far {w : World} {g i b j : Nat} {u : Value} (h : PtrAt w g i) (hne : g ≠ b) : PtrAt (w.setCell ⟨b, j, none⟩ u) g i := by
  obtain ⟨p, h⟩ := h
  exact ⟨p, by rw [cell_far (show (⟨g, i, none⟩ : Addr).block ≠ (⟨b, j, none⟩ : Addr).block from hne)]; exact h⟩
theorem ptr_ne {w : World} {s g : Nat} {A : Addr} {c : Nat} {n : Int} {hv rv lv : Value} (h : w.heap[s]? = some (.cells #[Value.int .i64 1, .int .i64 2, .int .i64 2, .int .i64 3, .int .i64 3, .int .i64 1, .int .i64 0, .int .i64 0, .int .i64 0, .int .i64 0, .int .i64 0, .int .i64 0, .slice (some A) 5 c, .int .i64 n, hv, .pointer none, rv, lv] 184 (0, 0))) (p : PtrAt w g 15) : g ≠ s := by
  rintro rfl
  obtain ⟨b, p⟩ := p
  rw [(sc_cells h).2.2.2.1] at p
  simp at p
theorem kind_of {n : Int} (h1 : 1 ≤ n) (h6 : n ≤ 6) : (tKind n = 1 ∧ (n = 1 ∨ n = 6)) ∨ tKind n = 2 ∨ (tKind n = 3 ∧ (n = 4 ∨ n = 5)) := by
  have : n = 1 ∨ n = 2 ∨ n = 3 ∨ n = 4 ∨ n = 5 ∨ n = 6 := by omega
  rcases this with rfl | rfl | rfl | rfl | rfl | rfl
  · exact .inl ⟨by kernel_rfl, .inl rfl⟩
  · exact .inr (.inl (by kernel_rfl))
  · exact .inr (.inl (by kernel_rfl))
  · exact .inr (.inr ⟨by kernel_rfl, .inl rfl⟩)
  · exact .inr (.inr ⟨by kernel_rfl, .inr rfl⟩)
  · exact .inl ⟨by kernel_rfl, .inr rfl⟩
set_option maxHeartbeats 8000000 in
set_option maxRecDepth 100000 in
theorem stateNew1 (w : World) (A : Addr) (c : Nat) (n : Int) (hC : Kd.C k142 w (some A) 5 tes) (hc : 5 ≤ c) (hk : tKind n = 1) (hn : n = 1 ∨ n = 6) :
    Calls Tryz.prog 90 #[.agg #[Value.int .i64 1, .int .i64 2, .int .i64 2, .int .i64 3, .int .i64 3, .int .i64 1, .int .i64 0, .int .i64 0, .int .i64 0, .int .i64 0, .int .i64 0, .int .i64 0, .slice (some A) 5 c], .int .i64 n] w fun e w' => ∃ s, e = .returned (.tuple #[.pointer (some ⟨s, 0, none⟩), .int .i64 0]) ∧ StateP w' w.heap.size s n ∧ Below w.heap.size w w' := by
  have HC := Aside0.mk hC
  have HK := Aside0.mk hk
  have HX := Aside0.mk (heap_at (w := w) (o := .cells #[Value.int .i64 1, .int .i64 2, .int .i64 2, .int .i64 3, .int .i64 3, .int .i64 1, .int .i64 0, .int .i64 0, .int .i64 0, .int .i64 0, .int .i64 0, .int .i64 0, .slice (some A) 5 c] 99) (g := w.heap.size) rfl)
  have HB := Aside0.mk (below_alloc (Below.refl w.heap.size w) (.cells #[Value.int .i64 1, .int .i64 2, .int .i64 2, .int .i64 3, .int .i64 3, .int .i64 1, .int .i64 0, .int .i64 0, .int .i64 0, .int .i64 0, .int .i64 0, .int .i64 0, .slice (some A) 5 c] 99))
  have HCC := Aside0.mk hc
  have HN := Aside0.mk hn
  have t1 : True := trivial
  have t2 : True := trivial
  clear hC hk hc hn
  obtain ⟨m0, m1, m2, m3, m4, m5, m6, m7, m8, m9, m10, m11, m12⟩ := tv_cells HX.out
  go_enter Tryz.func90, Tryz.ntmps90
  go_wp2_with (first
    | (go_at_call 65; go_must (refine (Right_tree _ A c (Kd.C_below HC.out HB.out) HCC.out).mono ?_; rintro e w1 ⟨rfl, h⟩; have HB1 := Aside0.mk (below_step HB.out h); have HX1 := Aside0.mk (blk_below HX.out h); clear h HB HX m0 m1 m2 m3 m4 m5 m6 m7 m8 m9 m10 m11 m12; have HB := HB1; have HX := HX1; clear HB1 HX1; obtain ⟨m0, m1, m2, m3, m4, m5, m6, m7, m8, m9, m10, m11, m12⟩ := tv_cells HX.out))
    | (go_at_call 69; have _t := t1; clear t1; go_must (refine (Kind_calls _ A c n).mono ?_; rw [HK.out]; rintro e w2 ⟨rfl, h⟩; have HB1 := Aside0.mk (below_step HB.out h); have HX1 := Aside0.mk (blk_below HX.out h); clear h HB HX m0 m1 m2 m3 m4 m5 m6 m7 m8 m9 m10 m11 m12; have HB := HB1; have HX := HX1; clear HB1 HX1; obtain ⟨m0, m1, m2, m3, m4, m5, m6, m7, m8, m9, m10, m11, m12⟩ := tv_cells HX.out))
    | (go_at_call 67; go_must (refine (CloneE_at _ A c (Kd.C_below HC.out HB.out)).mono ?_; rintro e w3 ⟨gs, cap, rfl, hp, hq, hr, h⟩; have HP := Aside0.mk hp; have HE1 := Aside0.mk (edges_far (i := 12) (u := .slice (some ⟨gs, 0, none⟩) 5 cap) hr (Nat.ne_of_gt (Nat.lt_of_lt_of_le (blk_lt HX.out) hq))); clear hp hq hr; have HB1 := Aside0.mk (below_step HB.out h); have HX1 := Aside0.mk (blk_below HX.out h); clear h HB HX m0 m1 m2 m3 m4 m5 m6 m7 m8 m9 m10 m11 m12; have HB := HB1; have HX := HX1; clear HB1 HX1; obtain ⟨m0, m1, m2, m3, m4, m5, m6, m7, m8, m9, m10, m11, m12⟩ := tv_cells HX.out; have HB2 := Aside0.mk (below_set (j := 12) (v := .slice (some ⟨gs, 0, none⟩) 5 cap) HB.out (Nat.le_refl _)); have HX2 := Aside0.mk (tv_put (B := ⟨gs, 0, none⟩) (d := cap) HX.out); have f12 := blk_frozen HX.out 12; have hlt := blk_lt HX.out; have hne := Nat.ne_of_lt hlt; clear HB HX))
    | (go_at_call 69; have _t := t2; clear t2; go_must (refine (Kind_calls _ ⟨gs, 0, none⟩ cap n).mono ?_; rw [HK.out]; rintro e w4 ⟨rfl, h⟩; obtain ⟨s, hs⟩ : ∃ s, s = w3.heap.size := ⟨_, rfl⟩; have HS := Aside0.mk (blk_below (heap_at (o := .cells #[Value.int .i64 1, .int .i64 2, .int .i64 2, .int .i64 3, .int .i64 3, .int .i64 1, .int .i64 0, .int .i64 0, .int .i64 0, .int .i64 0, .int .i64 0, .int .i64 0, .slice (some ⟨gs, 0, none⟩) 5 cap, .int .i64 n, .pointer none, .pointer none, .pointer none, .pointer none] 184) (g := s) (w := w3.setCell ⟨w.heap.size, 12, none⟩ (.slice (some ⟨gs, 0, none⟩) 5 cap)) (by simp [hs])) h); have HSG := Aside0.mk (show w.heap.size ≤ s by have := HB2.out.size; simp at this; omega); have HX := Aside0.mk (blk_below (blk_alloc HX2.out (.cells #[Value.int .i64 1, .int .i64 2, .int .i64 2, .int .i64 3, .int .i64 3, .int .i64 1, .int .i64 0, .int .i64 0, .int .i64 0, .int .i64 0, .int .i64 0, .int .i64 0, .slice (some ⟨gs, 0, none⟩) 5 cap, .int .i64 n, .pointer none, .pointer none, .pointer none, .pointer none] 184)) h); have HB := Aside0.mk (below_step (below_alloc HB2.out (.cells #[Value.int .i64 1, .int .i64 2, .int .i64 2, .int .i64 3, .int .i64 3, .int .i64 1, .int .i64 0, .int .i64 0, .int .i64 0, .int .i64 0, .int .i64 0, .int .i64 0, .slice (some ⟨gs, 0, none⟩) 5 cap, .int .i64 n, .pointer none, .pointer none, .pointer none, .pointer none] 184)) h); have HE := Aside0.mk (Kd.C_below HE1.out (below_step (below_alloc (Below.refl _ _) (.cells #[Value.int .i64 1, .int .i64 2, .int .i64 2, .int .i64 3, .int .i64 3, .int .i64 1, .int .i64 0, .int .i64 0, .int .i64 0, .int .i64 0, .int .i64 0, .int .i64 0, .slice (some ⟨gs, 0, none⟩) 5 cap, .int .i64 n, .pointer none, .pointer none, .pointer none, .pointer none] 184)) h)); rw [← hs]; clear hs h HB2 HX2 HE1 f12 hlt hne m0 m1 m2 m3 m4 m5 m6 m7 m8 m9 m10 m11 m12; obtain ⟨m0, m1, m2, m3, m4, m5, m6, m7, m8, m9, m10, m11, m12⟩ := tv_cells HX.out))
    | (go_at_call 104; go_must (refine (homeNew _ ⟨gs, 0, none⟩ cap n HE.out HP.out HN.out).mono ?_; rintro e w5 ⟨gx, rfl, hgx, hx, h⟩; have HGX := Aside0.mk (Nat.le_trans HB.out.size hgx); clear hgx; have HS1 := Aside0.mk (blk_below HS.out h); have HB1 := Aside0.mk (below_step HB.out h); clear h HS HB HX m0 m1 m2 m3 m4 m5 m6 m7 m8 m9 m10 m11 m12; have HS := HS1; have HB := HB1; clear HS1 HB1; have HPX := Aside0.mk (hx.far (b := s) (j := 14) (u := .pointer (some ⟨gx, 0, none⟩)) (ptr_ne HS.out hx)); clear hx; obtain ⟨_, _, m14, _, _, _⟩ := sc_cells HS.out; have f14 := blk_frozen HS.out 14)))
  go_ret2
  exact ⟨s, rfl, ⟨HSG.out, _, _, _, _, _, _, blk_put HS.out 14 _ rfl, .inl ⟨HK.out, gx, rfl, HGX.out, HPX.out⟩⟩, below_set HB.out HSG.out⟩
set_option maxHeartbeats 8000000 in
set_option maxRecDepth 100000 in
theorem stateNew2 (w : World) (A : Addr) (c : Nat) (n : Int) (hC : Kd.C k142 w (some A) 5 tes) (hc : 5 ≤ c) (hk : tKind n = 2) (hn : 1 ≤ n ∧ n ≤ 12) :
    Calls Tryz.prog 90 #[.agg #[Value.int .i64 1, .int .i64 2, .int .i64 2, .int .i64 3, .int .i64 3, .int .i64 1, .int .i64 0, .int .i64 0, .int .i64 0, .int .i64 0, .int .i64 0, .int .i64 0, .slice (some A) 5 c], .int .i64 n] w fun e w' => ∃ s, e = .returned (.tuple #[.pointer (some ⟨s, 0, none⟩), .int .i64 0]) ∧ StateP w' w.heap.size s n ∧ Below w.heap.size w w' := by
  have HC := Aside0.mk hC
  have HK := Aside0.mk hk
  have HX := Aside0.mk (heap_at (w := w) (o := .cells #[Value.int .i64 1, .int .i64 2, .int .i64 2, .int .i64 3, .int .i64 3, .int .i64 1, .int .i64 0, .int .i64 0, .int .i64 0, .int .i64 0, .int .i64 0, .int .i64 0, .slice (some A) 5 c] 99) (g := w.heap.size) rfl)
  have HB := Aside0.mk (below_alloc (Below.refl w.heap.size w) (.cells #[Value.int .i64 1, .int .i64 2, .int .i64 2, .int .i64 3, .int .i64 3, .int .i64 1, .int .i64 0, .int .i64 0, .int .i64 0, .int .i64 0, .int .i64 0, .int .i64 0, .slice (some A) 5 c] 99))
  have HCC := Aside0.mk hc
  have HN := Aside0.mk hn
  have t1 : True := trivial
  have t2 : True := trivial
  clear hC hk hc hn
  obtain ⟨m0, m1, m2, m3, m4, m5, m6, m7, m8, m9, m10, m11, m12⟩ := tv_cells HX.out
  go_enter Tryz.func90, Tryz.ntmps90
  go_wp2_with (first
    | (go_at_call 65; go_must (refine (Right_tree _ A c (Kd.C_below HC.out HB.out) HCC.out).mono ?_; rintro e w1 ⟨rfl, h⟩; have HB1 := Aside0.mk (below_step HB.out h); have HX1 := Aside0.mk (blk_below HX.out h); clear h HB HX m0 m1 m2 m3 m4 m5 m6 m7 m8 m9 m10 m11 m12; have HB := HB1; have HX := HX1; clear HB1 HX1; obtain ⟨m0, m1, m2, m3, m4, m5, m6, m7, m8, m9, m10, m11, m12⟩ := tv_cells HX.out))
    | (go_at_call 69; have _t := t1; clear t1; go_must (refine (Kind_calls _ A c n).mono ?_; rw [HK.out]; rintro e w2 ⟨rfl, h⟩; have HB1 := Aside0.mk (below_step HB.out h); have HX1 := Aside0.mk (blk_below HX.out h); clear h HB HX m0 m1 m2 m3 m4 m5 m6 m7 m8 m9 m10 m11 m12; have HB := HB1; have HX := HX1; clear HB1 HX1; obtain ⟨m0, m1, m2, m3, m4, m5, m6, m7, m8, m9, m10, m11, m12⟩ := tv_cells HX.out))
    | (go_at_call 67; go_must (refine (CloneE_at _ A c (Kd.C_below HC.out HB.out)).mono ?_; rintro e w3 ⟨gs, cap, rfl, hp, hq, hr, h⟩; have HP := Aside0.mk hp; have HE1 := Aside0.mk (edges_far (i := 12) (u := .slice (some ⟨gs, 0, none⟩) 5 cap) hr (Nat.ne_of_gt (Nat.lt_of_lt_of_le (blk_lt HX.out) hq))); clear hp hq hr; have HB1 := Aside0.mk (below_step HB.out h); have HX1 := Aside0.mk (blk_below HX.out h); clear h HB HX m0 m1 m2 m3 m4 m5 m6 m7 m8 m9 m10 m11 m12; have HB := HB1; have HX := HX1; clear HB1 HX1; obtain ⟨m0, m1, m2, m3, m4, m5, m6, m7, m8, m9, m10, m11, m12⟩ := tv_cells HX.out; have HB2 := Aside0.mk (below_set (j := 12) (v := .slice (some ⟨gs, 0, none⟩) 5 cap) HB.out (Nat.le_refl _)); have HX2 := Aside0.mk (tv_put (B := ⟨gs, 0, none⟩) (d := cap) HX.out); have f12 := blk_frozen HX.out 12; have hlt := blk_lt HX.out; have hne := Nat.ne_of_lt hlt; clear HB HX))
    | (go_at_call 69; have _t := t2; clear t2; go_must (refine (Kind_calls _ ⟨gs, 0, none⟩ cap n).mono ?_; rw [HK.out]; rintro e w4 ⟨rfl, h⟩; obtain ⟨s, hs⟩ : ∃ s, s = w3.heap.size := ⟨_, rfl⟩; have HS := Aside0.mk (blk_below (heap_at (o := .cells #[Value.int .i64 1, .int .i64 2, .int .i64 2, .int .i64 3, .int .i64 3, .int .i64 1, .int .i64 0, .int .i64 0, .int .i64 0, .int .i64 0, .int .i64 0, .int .i64 0, .slice (some ⟨gs, 0, none⟩) 5 cap, .int .i64 n, .pointer none, .pointer none, .pointer none, .pointer none] 184) (g := s) (w := w3.setCell ⟨w.heap.size, 12, none⟩ (.slice (some ⟨gs, 0, none⟩) 5 cap)) (by simp [hs])) h); have HSG := Aside0.mk (show w.heap.size ≤ s by have := HB2.out.size; simp at this; omega); have HX := Aside0.mk (blk_below (blk_alloc HX2.out (.cells #[Value.int .i64 1, .int .i64 2, .int .i64 2, .int .i64 3, .int .i64 3, .int .i64 1, .int .i64 0, .int .i64 0, .int .i64 0, .int .i64 0, .int .i64 0, .int .i64 0, .slice (some ⟨gs, 0, none⟩) 5 cap, .int .i64 n, .pointer none, .pointer none, .pointer none, .pointer none] 184)) h); have HB := Aside0.mk (below_step (below_alloc HB2.out (.cells #[Value.int .i64 1, .int .i64 2, .int .i64 2, .int .i64 3, .int .i64 3, .int .i64 1, .int .i64 0, .int .i64 0, .int .i64 0, .int .i64 0, .int .i64 0, .int .i64 0, .slice (some ⟨gs, 0, none⟩) 5 cap, .int .i64 n, .pointer none, .pointer none, .pointer none, .pointer none] 184)) h); have HE := Aside0.mk (Kd.C_below HE1.out (below_step (below_alloc (Below.refl _ _) (.cells #[Value.int .i64 1, .int .i64 2, .int .i64 2, .int .i64 3, .int .i64 3, .int .i64 1, .int .i64 0, .int .i64 0, .int .i64 0, .int .i64 0, .int .i64 0, .int .i64 0, .slice (some ⟨gs, 0, none⟩) 5 cap, .int .i64 n, .pointer none, .pointer none, .pointer none, .pointer none] 184)) h)); rw [← hs]; clear hs h HB2 HX2 HE1 f12 hlt hne m0 m1 m2 m3 m4 m5 m6 m7 m8 m9 m10 m11 m12; obtain ⟨m0, m1, m2, m3, m4, m5, m6, m7, m8, m9, m10, m11, m12⟩ := tv_cells HX.out))
    | (go_at_call 105; go_must (refine (shardNew _ ⟨gs, 0, none⟩ cap n HE.out HP.out HN.out.1 HN.out.2 HK.out).mono ?_; rintro e w5 ⟨gx, rfl, hgx, hx, hy, hz, h⟩; have HGX := Aside0.mk (Nat.le_trans HB.out.size hgx); clear hgx; have HS1 := Aside0.mk (blk_below HS.out h); have HB1 := Aside0.mk (below_step HB.out h); clear h HS HB HX m0 m1 m2 m3 m4 m5 m6 m7 m8 m9 m10 m11 m12; have HS := HS1; have HB := HB1; clear HS1 HB1; have hne := ptr_ne HS.out hx; have HPX := Aside0.mk (And.intro (hx.far (b := s) (j := 15) (u := .pointer (some ⟨gx, 0, none⟩)) hne) (And.intro (hy.far (b := s) (j := 15) (u := .pointer (some ⟨gx, 0, none⟩)) hne) (hz.far (b := s) (j := 15) (u := .pointer (some ⟨gx, 0, none⟩)) hne))); clear hx hy hz hne; obtain ⟨_, _, _, m15, _, _⟩ := sc_cells HS.out; have f15 := blk_frozen HS.out 15)))
  go_ret2
  exact ⟨s, rfl, ⟨HSG.out, _, _, _, _, _, _, blk_put HS.out 15 _ rfl, .inr (.inl ⟨HK.out, gx, rfl, HGX.out, HPX.out⟩)⟩, below_set HB.out HSG.out⟩
set_option maxHeartbeats 8000000 in
set_option maxRecDepth 100000 in
theorem stateNew3 (w : World) (A : Addr) (c : Nat) (n : Int) (hC : Kd.C k142 w (some A) 5 tes) (hc : 5 ≤ c) (hk : tKind n = 3) (hn : n = 4 ∨ n = 5) :
    Calls Tryz.prog 90 #[.agg #[Value.int .i64 1, .int .i64 2, .int .i64 2, .int .i64 3, .int .i64 3, .int .i64 1, .int .i64 0, .int .i64 0, .int .i64 0, .int .i64 0, .int .i64 0, .int .i64 0, .slice (some A) 5 c], .int .i64 n] w fun e w' => ∃ s, e = .returned (.tuple #[.pointer (some ⟨s, 0, none⟩), .int .i64 0]) ∧ StateP w' w.heap.size s n ∧ Below w.heap.size w w' := by
  have HC := Aside0.mk hC
  have HK := Aside0.mk hk
  have HX := Aside0.mk (heap_at (w := w) (o := .cells #[Value.int .i64 1, .int .i64 2, .int .i64 2, .int .i64 3, .int .i64 3, .int .i64 1, .int .i64 0, .int .i64 0, .int .i64 0, .int .i64 0, .int .i64 0, .int .i64 0, .slice (some A) 5 c] 99) (g := w.heap.size) rfl)
  have HB := Aside0.mk (below_alloc (Below.refl w.heap.size w) (.cells #[Value.int .i64 1, .int .i64 2, .int .i64 2, .int .i64 3, .int .i64 3, .int .i64 1, .int .i64 0, .int .i64 0, .int .i64 0, .int .i64 0, .int .i64 0, .int .i64 0, .slice (some A) 5 c] 99))
  have HCC := Aside0.mk hc
  have HN := Aside0.mk hn
  have t1 : True := trivial
  have t2 : True := trivial
  clear hC hk hc hn
  obtain ⟨m0, m1, m2, m3, m4, m5, m6, m7, m8, m9, m10, m11, m12⟩ := tv_cells HX.out
  have HN2 := Aside0.mk (show 1 ≤ n ∧ n ≤ 12 by have := HN.out; omega)
  go_enter Tryz.func90, Tryz.ntmps90
  go_wp2_with (first
    | (go_at_call 65; go_must (refine (Right_tree _ A c (Kd.C_below HC.out HB.out) HCC.out).mono ?_; rintro e w1 ⟨rfl, h⟩; have HB1 := Aside0.mk (below_step HB.out h); have HX1 := Aside0.mk (blk_below HX.out h); clear h HB HX m0 m1 m2 m3 m4 m5 m6 m7 m8 m9 m10 m11 m12; have HB := HB1; have HX := HX1; clear HB1 HX1; obtain ⟨m0, m1, m2, m3, m4, m5, m6, m7, m8, m9, m10, m11, m12⟩ := tv_cells HX.out))
    | (go_at_call 69; have _t := t1; clear t1; go_must (refine (Kind_calls _ A c n).mono ?_; rw [HK.out]; rintro e w2 ⟨rfl, h⟩; have HB1 := Aside0.mk (below_step HB.out h); have HX1 := Aside0.mk (blk_below HX.out h); clear h HB HX m0 m1 m2 m3 m4 m5 m6 m7 m8 m9 m10 m11 m12; have HB := HB1; have HX := HX1; clear HB1 HX1; obtain ⟨m0, m1, m2, m3, m4, m5, m6, m7, m8, m9, m10, m11, m12⟩ := tv_cells HX.out))
    | (go_at_call 67; go_must (refine (CloneE_at _ A c (Kd.C_below HC.out HB.out)).mono ?_; rintro e w3 ⟨gs, cap, rfl, hp, hq, hr, h⟩; have HP := Aside0.mk hp; have HE1 := Aside0.mk (edges_far (i := 12) (u := .slice (some ⟨gs, 0, none⟩) 5 cap) hr (Nat.ne_of_gt (Nat.lt_of_lt_of_le (blk_lt HX.out) hq))); clear hp hq hr; have HB1 := Aside0.mk (below_step HB.out h); have HX1 := Aside0.mk (blk_below HX.out h); clear h HB HX m0 m1 m2 m3 m4 m5 m6 m7 m8 m9 m10 m11 m12; have HB := HB1; have HX := HX1; clear HB1 HX1; obtain ⟨m0, m1, m2, m3, m4, m5, m6, m7, m8, m9, m10, m11, m12⟩ := tv_cells HX.out; have HB2 := Aside0.mk (below_set (j := 12) (v := .slice (some ⟨gs, 0, none⟩) 5 cap) HB.out (Nat.le_refl _)); have HX2 := Aside0.mk (tv_put (B := ⟨gs, 0, none⟩) (d := cap) HX.out); have f12 := blk_frozen HX.out 12; have hlt := blk_lt HX.out; have hne := Nat.ne_of_lt hlt; clear HB HX))
    | (go_at_call 69; have _t := t2; clear t2; go_must (refine (Kind_calls _ ⟨gs, 0, none⟩ cap n).mono ?_; rw [HK.out]; rintro e w4 ⟨rfl, h⟩; obtain ⟨s, hs⟩ : ∃ s, s = w3.heap.size := ⟨_, rfl⟩; have HS := Aside0.mk (blk_below (heap_at (o := .cells #[Value.int .i64 1, .int .i64 2, .int .i64 2, .int .i64 3, .int .i64 3, .int .i64 1, .int .i64 0, .int .i64 0, .int .i64 0, .int .i64 0, .int .i64 0, .int .i64 0, .slice (some ⟨gs, 0, none⟩) 5 cap, .int .i64 n, .pointer none, .pointer none, .pointer none, .pointer none] 184) (g := s) (w := w3.setCell ⟨w.heap.size, 12, none⟩ (.slice (some ⟨gs, 0, none⟩) 5 cap)) (by simp [hs])) h); have HSG := Aside0.mk (show w.heap.size ≤ s by have := HB2.out.size; simp at this; omega); have HX := Aside0.mk (blk_below (blk_alloc HX2.out (.cells #[Value.int .i64 1, .int .i64 2, .int .i64 2, .int .i64 3, .int .i64 3, .int .i64 1, .int .i64 0, .int .i64 0, .int .i64 0, .int .i64 0, .int .i64 0, .int .i64 0, .slice (some ⟨gs, 0, none⟩) 5 cap, .int .i64 n, .pointer none, .pointer none, .pointer none, .pointer none] 184)) h); have HB := Aside0.mk (below_step (below_alloc HB2.out (.cells #[Value.int .i64 1, .int .i64 2, .int .i64 2, .int .i64 3, .int .i64 3, .int .i64 1, .int .i64 0, .int .i64 0, .int .i64 0, .int .i64 0, .int .i64 0, .int .i64 0, .slice (some ⟨gs, 0, none⟩) 5 cap, .int .i64 n, .pointer none, .pointer none, .pointer none, .pointer none] 184)) h); have HE := Aside0.mk (Kd.C_below HE1.out (below_step (below_alloc (Below.refl _ _) (.cells #[Value.int .i64 1, .int .i64 2, .int .i64 2, .int .i64 3, .int .i64 3, .int .i64 1, .int .i64 0, .int .i64 0, .int .i64 0, .int .i64 0, .int .i64 0, .int .i64 0, .slice (some ⟨gs, 0, none⟩) 5 cap, .int .i64 n, .pointer none, .pointer none, .pointer none, .pointer none] 184)) h)); rw [← hs]; clear hs h HB2 HX2 HE1 f12 hlt hne m0 m1 m2 m3 m4 m5 m6 m7 m8 m9 m10 m11 m12; obtain ⟨m0, m1, m2, m3, m4, m5, m6, m7, m8, m9, m10, m11, m12⟩ := tv_cells HX.out))
    | (go_at_call 106; go_must (refine (relayNew _ ⟨gs, 0, none⟩ cap n HE.out HP.out HN.out).mono ?_; rintro e w5 ⟨gx, rfl, h⟩; have HS1 := Aside0.mk (blk_below HS.out h); have HB1 := Aside0.mk (below_step HB.out h); clear h HS HB HX m0 m1 m2 m3 m4 m5 m6 m7 m8 m9 m10 m11 m12; have HS := HS1; have HB := HB1; clear HS1 HB1; obtain ⟨_, _, _, _, m16, _⟩ := sc_cells HS.out; have f16 := blk_frozen HS.out 16))
    | (go_at_call 107; go_must (refine (linksNew _ n HN2.out.1 HN2.out.2).mono ?_; rintro e w6 ⟨gy, rfl, h⟩; have HS1 := Aside0.mk (blk_below (blk_put HS.out 16 (.pointer (some ⟨gx, 0, none⟩)) rfl) h); have HB1 := Aside0.mk (below_step (below_set (j := 16) (v := .pointer (some ⟨gx, 0, none⟩)) HB.out HSG.out) h); clear h HS HB m16 f16; obtain ⟨_, _, _, _, _, m17⟩ := sc_cells (lv := .pointer none) HS1.out; have f17 := blk_frozen HS1.out 17)))
  go_ret2
  exact ⟨s, rfl, ⟨HSG.out, _, _, _, _, _, _, blk_put HS1.out 17 _ rfl, .inr (.inr ⟨HK.out, gy, rfl⟩)⟩, below_set HB1.out HSG.out⟩
theorem stateNew (w : World) (A : Addr) (c : Nat) (n : Int) (hC : Kd.C k142 w (some A) 5 tes) (hc : 5 ≤ c) (h1 : 1 ≤ n) (h6 : n ≤ 6) :
    Calls Tryz.prog 90 #[.agg #[Value.int .i64 1, .int .i64 2, .int .i64 2, .int .i64 3, .int .i64 3, .int .i64 1, .int .i64 0, .int .i64 0, .int .i64 0, .int .i64 0, .int .i64 0, .int .i64 0, .slice (some A) 5 c], .int .i64 n] w fun e w' => ∃ s, e = .returned (.tuple #[.pointer (some ⟨s, 0, none⟩), .int .i64 0]) ∧ StateP w' w.heap.size s n ∧ Below w.heap.size w w' := by
  rcases kind_of h1 h6 with ⟨k, hn⟩ | k | ⟨k, hn⟩
  · exact stateNew1 w A c n hC hc k hn
  · exact stateNew2 w A c n hC hc k ⟨h1, by omega⟩
  · exact stateNew3 w A c n hC hc k hn
end Go.Proofs.YtmapdfommjcebaaGreat.Own
namespace Go.Proofs.YtmapdfommjcebaaGreat.Own
open Go.RowKit Go.Proofs.YtmapdfommjcebaaGreatW.PrintWords Go.Proofs.YtmapdfommjcebaaGreatW.PrintLast Go.Proofs.YtmapdfommjcebaaGreatW.PrintMore
open PTopWiped
/-- The blocks from a up to b are as they were. -/
def KeptT (W1 : World) (a b : Nat) : Thing where
  at_ W S := (∀ k, a ≤ k → k < b → W.heap[k]? = W1.heap[k]?) ∧ b ≤ W.heap.size ∧ ∀ k, S k ↔ (a ≤ k ∧ k < b)
  chg h hc hn := ⟨fun k h1 h2 => (hc.block k (Nat.lt_of_lt_of_le h2 h.2.1) (hn k ((h.2.2 k).2 ⟨h1, h2⟩))).trans (h.1 k h1 h2), Nat.le_trans h.2.1 hc.size, h.2.2⟩
  lt h k hk := Nat.lt_of_lt_of_le ((h.2.2 k).1 hk).2 h.2.1
theorem Here.kept {w W W1 : World} {a b : Nat} {Ps : List Thing} (h : Here w W (KeptT W1 a b :: Ps)) : ∀ k, a ≤ k → k < b → W.heap[k]? = W1.heap[k]? := by
  obtain ⟨S, h1, _⟩ := h.get
  exact h1.1
theorem Here.keep {w W W1 : World} {Ps : List Thing} (h : Here w W Ps) (hb : Below W.heap.size W W1) : Here w W1 (KeptT W1 W.heap.size W1.heap.size :: Ps) :=
  h.add (P := KeptT W1 W.heap.size W1.heap.size) (S' := fun k => W.heap.size ≤ k ∧ k < W1.heap.size) ⟨fun _ _ _ => rfl, Nat.le_refl _, fun _ => Iff.rfl⟩ hb (fun _ hk => hk.1)
theorem Here.base {w W : World} {g : Nat} {cs : Array Value} {t : TypeId} {Ps : List Thing} (h : Here w W (CellsT g cs t :: Ps)) : w.heap.size ≤ g := by
  obtain ⟨S, h1, h2, _⟩ := h.get
  exact h2 g ((h1.2 g).2 rfl)
set_option maxHeartbeats 8000000 in
set_option maxRecDepth 100000 in
theorem nodeFormat (w0 W : World) (g : Nat) (d : Dm) (hH : Here w0 W (DiskT g d :: [])) (hq : d.q.length ≤ 999000) (A : Addr) (c : Nat) (n : Int) (hC : Kd.C k142 W (some A) 5 tes) (hc : 5 ≤ c) (h1 : 1 ≤ n) (h6 : n ≤ 6) :
    Calls Tryz.prog 70 #[.agg #[Value.int .i64 1, .int .i64 2, .int .i64 2, .int .i64 3, .int .i64 3, .int .i64 1, .int .i64 0, .int .i64 0, .int .i64 0, .int .i64 0, .int .i64 0, .int .i64 0, .slice (some A) 5 c], .int .i64 n, .pointer (some ⟨g, 0, none⟩)] W fun e w' => ∃ x, e = .returned (.tuple #[.pointer (some ⟨x, 0, none⟩), .int .i64 0]) ∧ NodeP w' w0.heap.size x n ∧ Below w0.heap.size w0 w' := by
  have HC := Aside0.mk (Kd.C_below hC (below_alloc (Below.refl W.heap.size W) (.cells #[Value.int .i64 1, .int .i64 2, .int .i64 2, .int .i64 3, .int .i64 3, .int .i64 1, .int .i64 0, .int .i64 0, .int .i64 0, .int .i64 0, .int .i64 0, .int .i64 0, .slice (some A) 5 c] 99)))
  have HQ := Aside0.mk hq
  have HCC := Aside0.mk hc
  have HW0 := Aside0.mk hH.below.size
  have HH := Aside0.mk (hH.alloc (.cells #[Value.int .i64 1, .int .i64 2, .int .i64 2, .int .i64 3, .int .i64 3, .int .i64 1, .int .i64 0, .int .i64 0, .int .i64 0, .int .i64 0, .int .i64 0, .int .i64 0, .slice (some A) 5 c] 99))
  have HX := Aside0.mk (heap_at (w := W) (o := .cells #[Value.int .i64 1, .int .i64 2, .int .i64 2, .int .i64 3, .int .i64 3, .int .i64 1, .int .i64 0, .int .i64 0, .int .i64 0, .int .i64 0, .int .i64 0, .int .i64 0, .slice (some A) 5 c] 99) (g := W.heap.size) rfl)
  clear hC hq hc hH
  obtain ⟨m0, m1, m2, m3, m4, m5, m6, m7, m8, m9, m10, m11, m12⟩ := tv_cells HX.out
  go_enter Tryz.func70, Tryz.ntmps70
  go_wp2_with (first
    | (go_at_call 90; go_must (refine (stateNew _ A c n HC.out HCC.out h1 h6).mono ?_; rintro e w1 ⟨s, rfl, hs, h⟩; have HS := Aside0.mk hs; have HK := Aside0.mk (HH.out.keep h).swap; clear hs h HX m0 m1 m2 m3 m4 m5 m6 m7 m8 m9 m10 m11 m12))
    | (go_at_call 14; go_must (refine (Format_here HK.out HQ.out).mono ?_; rintro e w2 ⟨gl, rfl, h⟩; have HL := Aside0.mk h; clear h)))
  go_ret2
  have hl := HL.out
  exact ⟨_, rfl, ⟨hl.below.size, gl, _, s, _, hl.base, by simp only [World.alloc, Array.size_push]; exact Nat.le_succ_of_le HW0.out, heap_at rfl, (lg_cells (hl.alloc _)).2.1, (HS.out.same (Here.nth hl 2 (by simp)).kept).below (below_alloc (Below.refl _ _) _)⟩, (hl.alloc _).below⟩
end Go.Proofs.YtmapdfommjcebaaGreat.Own
namespace Go.Proofs.YtmapdfommjcebaaGreat.Own
open Go.RowKit Go.Proofs.YtmapdfommjcebaaGreatW.PrintWords Go.Proofs.YtmapdfommjcebaaGreatW.PrintLast Go.Proofs.YtmapdfommjcebaaGreatW.PrintMore
open PTopWiped
theorem dm_q (n : Nat) : (Dm.new n).q.length ≤ 999000 := Nat.zero_le _
def CL0 (A : Addr) (c : Nat) (nb : Nat) : Array Value := #[.int .i64 1, .int .i64 2, .int .i64 2, .int .i64 3, .int .i64 3, .int .i64 1, .int .i64 0, .int .i64 0, .int .i64 0, .int .i64 0, .int .i64 0, .int .i64 0, .slice (some A) 5 c, .pointer (some ⟨nb, 0, none⟩), .pointer none, .pointer none, .pointer none, .pointer none, .pointer none, .pointer none, .pointer none, .pointer none, .pointer none, .pointer none, .pointer none, .pointer none, .pointer none, .pointer none, .pointer none, .pointer none, .pointer none, .pointer none, .pointer none, .pointer none, .pointer none, .pointer none, .pointer none, .pointer none]
/-- A cluster's block, of whose nodes the first are made. -/
def ClusB (w : World) (g i : Nat) : Prop :=
  ∃ (cs : Array Value) (A : Addr) (c nb : Nat), w.heap[g]? = some (.cells cs 107 (0, 0)) ∧ cs.size = 38 ∧ (∀ j, j < 14 → cs[j]? = (CL0 A c nb)[j]?) ∧ ∀ j, j < i → j < 6 → ∃ x, cs[26 + j]? = some (.pointer (some ⟨x, 0, none⟩)) ∧ NodeP w (g + 1) x ((j : Int) + 1)
theorem ClusB.below {w w' : World} {g i : Nat} (h : ClusB w g i) (hb : Below w.heap.size w w') : ClusB w' g i := by
  obtain ⟨cs, A, c, nb, h1, h2, h3, h4⟩ := h
  exact ⟨cs, A, c, nb, blk_below h1 hb, h2, h3, fun j hj h6 => by
    obtain ⟨x, h5, h7⟩ := h4 j hj h6
    exact ⟨x, h5, h7.below hb⟩⟩
theorem ClusB.at_ {w : World} {g i : Nat} (h : ClusB w g i) (k : Nat) (hk : k < 38) : (∃ v, w.cell? ⟨g, k, none⟩ = some v) ∧ w.frozen? ⟨g, k, none⟩ = false := by
  obtain ⟨cs, A, c, nb, h, h1, _⟩ := h
  exact ⟨⟨cs[k]'(by omega), by rw [cell_of_row w g k _ _ _ h]; exact Array.getElem?_eq_getElem (by omega)⟩, blk_frozen h k⟩
theorem ClusB.more {w : World} {g i : Nat} (h : ClusB w g i) (h6 : 6 ≤ i) : ClusB w g (i + 1) := by
  obtain ⟨cs, A, c, nb, h1, h2, h3, h4⟩ := h
  exact ⟨cs, A, c, nb, h1, h2, h3, fun j _ hj => h4 j (by omega) hj⟩
/-- A disk's place. -/
theorem ClusB.disk {w : World} {g i : Nat} (h : ClusB w g i) (k : Nat) (h1 : 14 ≤ k) (h2 : k < 26) (u : Value) : ClusB (w.setCell ⟨g, k, none⟩ u) g i := by
  obtain ⟨cs, A, c, nb, hb, hs, h3, h4⟩ := h
  refine ⟨_, A, c, nb, blk_put hb k u rfl, by simpa using hs, fun j hj => ?_, fun j hj h6 => ?_⟩
  · rw [Array.getElem?_setIfInBounds_ne (by omega)]
    exact h3 j hj
  · obtain ⟨x, h5, h7⟩ := h4 j hj h6
    exact ⟨x, by rw [Array.getElem?_setIfInBounds_ne (by omega)]; exact h5, h7.far (by omega)⟩
/-- A node's place. -/
theorem ClusB.node {w : World} {g i x : Nat} (h : ClusB w g i) (hi : i < 6) (hx : NodeP w (g + 1) x ((i : Int) + 1)) : ClusB (w.setCell ⟨g, 26 + i, none⟩ (.pointer (some ⟨x, 0, none⟩))) g (i + 1) := by
  obtain ⟨cs, A, c, nb, hb, hs, h3, h4⟩ := h
  refine ⟨_, A, c, nb, blk_put hb (26 + i) _ rfl, by simpa using hs, fun j hj => ?_, fun j hj h6 => ?_⟩
  · rw [Array.getElem?_setIfInBounds_ne (by omega)]
    exact h3 j hj
  · by_cases he : j = i
    · subst he
      exact ⟨x, by rw [Array.getElem?_setIfInBounds_self_of_lt (by omega)], hx.far (by omega)⟩
    · obtain ⟨y, h5, h7⟩ := h4 j (by omega) h6
      exact ⟨y, by rw [Array.getElem?_setIfInBounds_ne (by omega)]; exact h5, h7.far (by omega)⟩
set_option maxHeartbeats 8000000 in
set_option maxRecDepth 100000 in
theorem clusterNew (w : World) (A : Addr) (c : Nat) (hC : Kd.C k142 w (some A) 5 tes) (hc : 5 ≤ c) :
    Calls Tryz.prog 40 #[.agg #[Value.int .i64 1, .int .i64 2, .int .i64 2, .int .i64 3, .int .i64 3, .int .i64 1, .int .i64 0, .int .i64 0, .int .i64 0, .int .i64 0, .int .i64 0, .int .i64 0, .slice (some A) 5 c], .int .i64 60000] w fun e w' => ∃ g, e = .returned (.tuple #[.pointer (some ⟨g, 0, none⟩), .int .i64 0]) ∧ ClusB w' g 6 ∧ Below w.heap.size w w' := by
  have HC := Aside0.mk hC
  have HX := Aside0.mk (heap_at (w := w) (o := .cells #[Value.int .i64 1, .int .i64 2, .int .i64 2, .int .i64 3, .int .i64 3, .int .i64 1, .int .i64 0, .int .i64 0, .int .i64 0, .int .i64 0, .int .i64 0, .int .i64 0, .slice (some A) 5 c] 99) (g := w.heap.size) rfl)
  have HB := Aside0.mk (below_alloc (Below.refl w.heap.size w) (.cells #[Value.int .i64 1, .int .i64 2, .int .i64 2, .int .i64 3, .int .i64 3, .int .i64 1, .int .i64 0, .int .i64 0, .int .i64 0, .int .i64 0, .int .i64 0, .int .i64 0, .slice (some A) 5 c] 99))
  have HCC := Aside0.mk hc
  clear hC hc
  obtain ⟨m0, m1, m2, m3, m4, m5, m6, m7, m8, m9, m10, m11, m12⟩ := tv_cells HX.out
  go_enter Tryz.func40, Tryz.ntmps40
  go_wp2_with (first
    | (go_at_call 65; go_must (refine (Right_tree _ A c (Kd.C_below HC.out HB.out) HCC.out).mono ?_; rintro e w1 ⟨rfl, h⟩; have HB1 := Aside0.mk (below_step HB.out h); have HX1 := Aside0.mk (blk_below HX.out h); clear h HB HX m0 m1 m2 m3 m4 m5 m6 m7 m8 m9 m10 m11 m12; have HB := HB1; have HX := HX1; clear HB1 HX1; obtain ⟨m0, m1, m2, m3, m4, m5, m6, m7, m8, m9, m10, m11, m12⟩ := tv_cells HX.out))
    | (go_at_call 66; go_must (refine (Nodes_calls _ A c 3 (by decide) (by decide)).mono ?_; rw [nodes_three]; rintro e w1 ⟨v, rfl, h1, h⟩; obtain ⟨gn, capn, rfl, z1, z2, z3⟩ := OwnI.form h1 (by simp); clear h1 z1 z2 z3; have HB1 := Aside0.mk (below_step HB.out h); have HX1 := Aside0.mk (blk_below HX.out h); clear h HB HX m0 m1 m2 m3 m4 m5 m6 m7 m8 m9 m10 m11 m12; have HB := HB1; have HX := HX1; clear HB1 HX1; obtain ⟨m0, m1, m2, m3, m4, m5, m6, m7, m8, m9, m10, m11, m12⟩ := tv_cells HX.out))
    | (go_at_call 67; go_must (refine (CloneE_at _ A c (Kd.C_below HC.out HB.out)).mono ?_; rintro e w3 ⟨gs, cap, rfl, hp, hq, hr, h⟩; have HP := Aside0.mk hp; have HE := Aside0.mk (edges_far (i := 12) (u := .slice (some ⟨gs, 0, none⟩) 5 cap) hr (Nat.ne_of_gt (Nat.lt_of_lt_of_le (blk_lt HX.out) hq))); clear hp hq hr; have HB1 := Aside0.mk (below_step HB.out h); have HX1 := Aside0.mk (blk_below HX.out h); clear h HB HX m0 m1 m2 m3 m4 m5 m6 m7 m8 m9 m10 m11 m12; have HB := HB1; have HX := HX1; clear HB1 HX1; obtain ⟨m0, m1, m2, m3, m4, m5, m6, m7, m8, m9, m10, m11, m12⟩ := tv_cells HX.out; have HB2 := Aside0.mk (below_set (j := 12) (v := .slice (some ⟨gs, 0, none⟩) 5 cap) HB.out (Nat.le_refl _)); have HX2 := Aside0.mk (tv_put (B := ⟨gs, 0, none⟩) (d := cap) HX.out); have f12 := blk_frozen HX.out 12; clear HB HX)))
  clear f12 m0 m1 m2 m3 m4 m5 m6 m7 m8 m9 m10 m11 m12
  obtain ⟨W, hW⟩ : ∃ W, W = w3.setCell ⟨w.heap.size, 12, none⟩ (.slice (some ⟨gs, 0, none⟩) 5 cap) := ⟨_, rfl⟩
  rw [← hW] at HB2 HX2 HE ⊢
  clear hW
  have HE0 := Aside0.mk (Below.refl W.heap.size W)
  go_region_held3 (fun w' => w'.cell? ⟨w.heap.size, 0, none⟩ = some (.int .i64 1) ∧ w'.cell? ⟨w.heap.size, 1, none⟩ = some (.int .i64 2) ∧ w'.cell? ⟨w.heap.size, 2, none⟩ = some (.int .i64 2) ∧ w'.cell? ⟨w.heap.size, 3, none⟩ = some (.int .i64 3) ∧ w'.cell? ⟨w.heap.size, 4, none⟩ = some (.int .i64 3) ∧ w'.cell? ⟨w.heap.size, 5, none⟩ = some (.int .i64 1) ∧ w'.cell? ⟨w.heap.size, 6, none⟩ = some (.int .i64 0) ∧ w'.cell? ⟨w.heap.size, 7, none⟩ = some (.int .i64 0) ∧ w'.cell? ⟨w.heap.size, 8, none⟩ = some (.int .i64 0) ∧ w'.cell? ⟨w.heap.size, 9, none⟩ = some (.int .i64 0) ∧ w'.cell? ⟨w.heap.size, 10, none⟩ = some (.int .i64 0) ∧ w'.cell? ⟨w.heap.size, 11, none⟩ = some (.int .i64 0) ∧ w'.cell? ⟨w.heap.size, 12, none⟩ = some (.slice (some ⟨gs, 0, none⟩) 5 cap))
    (first | (focus (refine tv_cells (t := 99) (f := (0, 0)) ?_; (repeat (first | with_reducible refine blk_drew ?_ | with_reducible refine blk_alloc ?_ _ | exact HX2.out)); done)))
    (first | (go_at_call 68; go_must (refine (netNew _).mono ?_; rintro e w4 ⟨nb, rfl, h⟩; have HB1 := Aside0.mk (below_step HB2.out.drew h); have HX1 := Aside0.mk (blk_below (blk_drew HX2.out) h); have HE1 := Aside0.mk (below_step (Below.refl _ W).drew h); clear h HB2 HX2 HE0; have HB2 := HB1; have HX2 := HX1; have HE0 := HE1; clear HB1 HX1 HE1)))
  have HG := Aside0.mk (show w.heap.size < w4.heap.size from blk_lt HX2.out)
  have HGS := Aside0.mk (show gs < w4.heap.size by
    have h := edge_cells HE.out 0 _ rfl
    rw [add_plain] at h
    exact Nat.lt_of_lt_of_le (World.block_lt_of_cell? W _ h) HE0.out.size)
  obtain ⟨gh, hgh⟩ : ∃ gh, gh = w4.heap.size := ⟨_, rfl⟩
  have HH1 := Aside0.mk (show ClusB (w4.alloc (.cells (CL0 ⟨gs, 0, none⟩ cap nb) 107)) gh 0 from ⟨_, _, _, _, heap_at hgh, by rfl, fun _ _ => rfl, fun j hj => absurd hj (by omega)⟩)
  have HB1 := Aside0.mk (below_alloc HB2.out (.cells (CL0 ⟨gs, 0, none⟩ cap nb) 107))
  have HX1 := Aside0.mk (blk_alloc HX2.out (.cells (CL0 ⟨gs, 0, none⟩ cap nb) 107))
  have HE1 := Aside0.mk (Kd.C_below HE.out (below_alloc HE0.out (.cells (CL0 ⟨gs, 0, none⟩ cap nb) 107)))
  rw [← hgh] at HG HGS ⊢
  clear hgh HB2 HX2 HE HE0
  go_wp2_with fail
  go_loopw [28] (fun v28 wr => ∃ (i : Nat), v28 = .int .i64 i ∧ i ≤ 12 ∧ Aside0 (Below w.heap.size w wr) ∧ Aside0 (wr.heap[w.heap.size]? = some (.cells #[Value.int .i64 1, .int .i64 2, .int .i64 2, .int .i64 3, .int .i64 3, .int .i64 1, .int .i64 0, .int .i64 0, .int .i64 0, .int .i64 0, .int .i64 0, .int .i64 0, .slice (some ⟨gs, 0, none⟩) 5 cap] 99 (0, 0))) ∧ Aside0 (Kd.C k142 wr (some ⟨gs, 0, none⟩) 5 tes) ∧ Aside0 (ClusB wr gh i)) (fun v28 _ => 12 - (intOf v28).toNat)
  case atStart => exact ⟨0, rfl, by omega, HB1, HX1, HE1, HH1⟩
  case round =>
    clear HB1 HX1 HE1 HH1
    obtain ⟨i, rfl, hi, HB, HX, HE, HH⟩ := hrel
    obtain ⟨m0, m1, m2, m3, m4, m5, m6, m7, m8, m9, m10, m11, m12⟩ := tv_cells HX.out
    by_cases hlt : i < 12
    · have hw : IntKind.i64.wrap ((i : Int) + 1) = (i : Int) + 1 := IntWalk.i64_in _ ⟨by omega, by omega⟩
      by_cases h6 : i < 6
      · have HK := Aside0.mk (show tKind ((i : Int) + 1) = 1 ∨ tKind ((i : Int) + 1) = 2 ∨ tKind ((i : Int) + 1) = 3 by
          rcases kind_of (n := (i : Int) + 1) (by omega) (by omega) with h | h | h
          · exact .inl h.1
          · exact .inr (.inl h)
          · exact .inr (.inr h.1))
        obtain ⟨kk, hkk⟩ : ∃ kk, kk = tKind ((i : Int) + 1) := ⟨_, rfl⟩
        have HKK := Aside0.mk hkk
        have q0 : (kk == 0) = false := beq_eq_false_iff_ne.mpr (by have := HK.out; omega)
        clear hkk
        go_wp2_with (first
          | (go_at_call 69; go_must (refine (Kind_calls _ ⟨gs, 0, none⟩ cap ((i : Int) + 1)).mono ?_; rw [← HKK.out]; rintro e w5 ⟨rfl, h⟩; have HE1 := Aside0.mk (Kd.C_below HE.out h); have HH1 := Aside0.mk (HH.out.below h); clear HE HH; have HE := HE1; have HH := HH1; clear HE1 HH1; have HB1 := Aside0.mk (below_step HB.out h); have HX1 := Aside0.mk (blk_below HX.out h); clear h HB HX m0 m1 m2 m3 m4 m5 m6 m7 m8 m9 m10 m11 m12; have HB := HB1; have HX := HX1; clear HB1 HX1))
          | (go_at_call 13; go_must (refine (New_here (Here.nil _) 60000 (by omega) (by omega)).mono ?_; rintro e w6 ⟨g, rfl, hd⟩; have HD := Aside0.mk hd; have HE6 := Aside0.mk (Kd.C_below HE.out hd.below); have HX6 := Aside0.mk (blk_below HX.out hd.below); clear hd; obtain ⟨m0, m1, m2, m3, m4, m5, m6, m7, m8, m9, m10, m11, m12⟩ := tv_cells HX6.out))
          | (go_at_call 70; go_must (refine (nodeFormat _ _ g _ HD.out (dm_q _) ⟨gs, 0, none⟩ cap ((i : Int) + 1) HE6.out HP.out (by omega) (by omega)).mono ?_; rintro e w7 ⟨x, rfl, hx, h⟩; have HN := Aside0.mk (hx.mono (b := gh + 1) (by obtain ⟨cs, _, _, _, hb, _⟩ := HH.out; exact blk_lt hb)); have HH1 := Aside0.mk (HH.out.below h); have HE1 := Aside0.mk (Kd.C_below HE.out h); clear hx HD HE6 HX6 HE HH; have HE := HE1; have HH := HH1; clear HE1 HH1; have HB1 := Aside0.mk (below_step HB.out h); have HX1 := Aside0.mk (blk_below HX.out h); clear h HB HX m0 m1 m2 m3 m4 m5 m6 m7 m8 m9 m10 m11 m12; have HB := HB1; have HX := HX1; clear HB1 HX1; obtain ⟨⟨v0, s0⟩, s1⟩ := HH.out.at_ (14 + i) (by omega); obtain ⟨⟨v2, s2⟩, s3⟩ := HH.out.at_ (26 + i) (by omega))))
        go_region
        have HB1 := Aside0.mk (below_drew1 (below_set (j := 26 + i) (v := .pointer (some ⟨x, 0, none⟩)) (below_set (j := 14 + i) (v := .pointer (some ⟨g, 0, none⟩)) HB.out (Nat.le_of_lt HG.out)) (Nat.le_of_lt HG.out)))
        have HX1 := Aside0.mk (blk_drew (blk_far (blk_far HX.out (p := ⟨gh, 14 + i, none⟩) (Nat.ne_of_lt HG.out) (.pointer (some ⟨g, 0, none⟩))) (p := ⟨gh, 26 + i, none⟩) (Nat.ne_of_lt HG.out) (.pointer (some ⟨x, 0, none⟩))))
        have HE1 := Aside0.mk (Kd.C_below (edges_far (i := 26 + i) (u := .pointer (some ⟨x, 0, none⟩)) (edges_far (i := 14 + i) (u := .pointer (some ⟨g, 0, none⟩)) HE.out (Nat.ne_of_lt HGS.out)) (Nat.ne_of_lt HGS.out)) (Below.refl _ _).drew)
        have HH1 := Aside0.mk (((HH.out.disk (14 + i) (by omega) (by omega) (.pointer (some ⟨g, 0, none⟩))).node h6 (HN.out.far (j := 14 + i) (u := .pointer (some ⟨g, 0, none⟩)) (Nat.lt_succ_self gh))).below (Below.refl _ _).drew)
        clear HB HX HE HH s0 s1 s2 s3
        go_wp2_with fail
        go_roundw
        case rel => exact ⟨i + 1, by go_num, by omega, HB1, HX1, HE1, HH1⟩
        case measure => simp [intOf]; omega
      · have hk0 : tKind ((i : Int) + 1) = 0 := by
          rcases (show i = 6 ∨ i = 7 ∨ i = 8 ∨ i = 9 ∨ i = 10 ∨ i = 11 by omega) with rfl | rfl | rfl | rfl | rfl | rfl <;> kernel_rfl
        have HKK := Aside0.mk hk0
        clear hk0
        go_wp2_with (first
          | (go_at_call 69; go_must (refine (Kind_calls _ ⟨gs, 0, none⟩ cap ((i : Int) + 1)).mono ?_; rw [HKK.out]; rintro e w5 ⟨rfl, h⟩; have HE1 := Aside0.mk (Kd.C_below HE.out h); have HH1 := Aside0.mk ((HH.out.below h).more (by omega)); clear HE HH; have HE := HE1; have HH := HH1; clear HE1 HH1; have HB1 := Aside0.mk (below_step HB.out h); have HX1 := Aside0.mk (blk_below HX.out h); clear h HB HX m0 m1 m2 m3 m4 m5 m6 m7 m8 m9 m10 m11 m12; have HB := HB1; have HX := HX1; clear HB1 HX1)))
        go_roundw
        case rel => exact ⟨i + 1, by go_num, by omega, HB, HX, HE, HH⟩
        case measure => simp [intOf]; omega
    · have he : i = 12 := by omega
      subst he
      go_wp2_with fail
      go_ret2
      obtain ⟨cs, B, d, nb, h1, h2, h3, h4⟩ := HH.out
      exact ⟨_, rfl, ⟨cs, B, d, nb, h1, h2, h3, fun j hj hj6 => h4 j (by omega) hj6⟩, HB.out⟩
end Go.Proofs.YtmapdfommjcebaaGreat.Own
namespace Go.Proofs.YtmapdfommjcebaaGreat.Own
open Go.RowKit Go.Proofs.YtmapdfommjcebaaGreatW.PrintWords Go.Proofs.YtmapdfommjcebaaGreatW.PrintLast Go.Proofs.YtmapdfommjcebaaGreatW.PrintMore
open PTopWiped
theorem results_one {P : Program} {fn : Func} {p : Tmp} {ty : TypeId} (h : fn.results = #[.cell p ty]) (tmps : Array Value) (w : World) (g : Nat) (t : TypeId) (cs : Array Value) (fr : Nat × Nat) (d : TypeDesc)
    (hp : tmps.getD p undef = .pointer (some ⟨g, 0, none⟩)) (hg : w.heap[g]? = some (.cells cs t fr))
    (hu : P.underlying ty = some d) (hd : (match d with | .struct _ | .array _ _ => true | _ => false) = true) (hi : (P.info? ty).map (·.size) = some cs.size) :
    (results fn tmps).run P w = .ok (.agg cs) w := by
  have hp' : tmps[p]?.getD undef = .pointer (some ⟨g, 0, none⟩) := by simpa using hp
  simp [results, h, hp', asAddr, run_loadVar_row w g t ty cs fr d hg hu hd hi]
set_option maxHeartbeats 8000000 in
set_option maxRecDepth 100000 in
theorem Tree_calls (w : World) : Calls Tryz.prog 41 #[] w fun e w' => ∃ A c, e = .returned (.agg #[Value.int .i64 1, .int .i64 2, .int .i64 2, .int .i64 3, .int .i64 3, .int .i64 1, .int .i64 0, .int .i64 0, .int .i64 0, .int .i64 0, .int .i64 0, .int .i64 0, .slice (some A) 5 c]) ∧ 5 ≤ c ∧ Kd.C k142 w' (some A) 5 tes ∧ Below w.heap.size w w' := by
  go_enter Tryz.func41, Tryz.ntmps41
  go_wp2_with fail
  refine bodyPost_ret (results_one rfl _ _ w.heap.size 99 _ (0, 0) _ rfl (blk_alloc (heap_at rfl) _) Tryz.underlying99 rfl (by kernel_rfl)) rfl ?_
  refine ⟨⟨w.heap.size + 1, 0, none⟩, 5, rfl, Nat.le_refl _, C_edges fun j u hj => ?_, below_alloc (below_alloc (Below.refl _ _) _) _⟩
  rw [cell_of_row _ (w.heap.size + 1) j _ _ _ (heap_at (by simp))]
  show tesV.toArray[j]? = some u
  rw [List.getElem?_toArray]
  exact hj
theorem ClusB.cells {w : World} {g i : Nat} (h : ClusB w g i) : ∃ A c nb, (w.cell? ⟨g, 0, none⟩ = some (.int .i64 1) ∧ w.cell? ⟨g, 1, none⟩ = some (.int .i64 2) ∧ w.cell? ⟨g, 2, none⟩ = some (.int .i64 2) ∧ w.cell? ⟨g, 3, none⟩ = some (.int .i64 3) ∧ w.cell? ⟨g, 4, none⟩ = some (.int .i64 3) ∧ w.cell? ⟨g, 5, none⟩ = some (.int .i64 1) ∧ w.cell? ⟨g, 6, none⟩ = some (.int .i64 0) ∧ w.cell? ⟨g, 7, none⟩ = some (.int .i64 0) ∧ w.cell? ⟨g, 8, none⟩ = some (.int .i64 0) ∧ w.cell? ⟨g, 9, none⟩ = some (.int .i64 0) ∧ w.cell? ⟨g, 10, none⟩ = some (.int .i64 0) ∧ w.cell? ⟨g, 11, none⟩ = some (.int .i64 0) ∧ w.cell? ⟨g, 12, none⟩ = some (.slice (some A) 5 c)) ∧ w.cell? ⟨g, 13, none⟩ = some (.pointer (some ⟨nb, 0, none⟩)) := by
  obtain ⟨cs, A, c, nb, h, _, h3, _⟩ := h
  have k : ∀ j, j < 14 → w.cell? ⟨g, j, none⟩ = (CL0 A c nb)[j]? := fun j hj => by rw [cell_of_row w g j _ _ _ h, h3 j hj]
  exact ⟨A, c, nb, ⟨k 0 (by omega), k 1 (by omega), k 2 (by omega), k 3 (by omega), k 4 (by omega), k 5 (by omega), k 6 (by omega), k 7 (by omega), k 8 (by omega), k 9 (by omega), k 10 (by omega), k 11 (by omega), k 12 (by omega)⟩, k 13 (by omega)⟩
set_option maxHeartbeats 8000000 in
set_option maxRecDepth 100000 in
theorem clusterThere (w : World) (g i : Nat) (n : Int) (h : ClusB w g i) (hn : 1 ≤ n ∧ n ≤ 6) : Calls Tryz.prog 43 #[.pointer (some ⟨g, 0, none⟩), .int .i64 n] w fun e w' => e = .returned (.bool true) ∧ Below w.heap.size w w' := by
  obtain ⟨A, c, nb, ⟨m0, m1, m2, m3, m4, m5, m6, m7, m8, m9, m10, m11, m12⟩, m13⟩ := h.cells
  have HK := Aside0.mk (show tKind n = 1 ∨ tKind n = 2 ∨ tKind n = 3 by
    rcases kind_of hn.1 hn.2 with h | h | h
    · exact .inl h.1
    · exact .inr (.inl h)
    · exact .inr (.inr h.1))
  have HM := Aside0.mk m13
  obtain ⟨kk, hkk⟩ : ∃ kk, kk = tKind n := ⟨_, rfl⟩
  have HKK := Aside0.mk hkk
  have q0 : decide (0 < kk) = true := decide_eq_true (by have := HK.out; omega)
  clear hkk hn h m13
  go_enter Tryz.func43, Tryz.ntmps43
  go_wp2_with (first
    | (go_at_call 73; go_must (refine (clusterMade _ g nb HM.out).mono ?_; rintro e w1 ⟨rfl, rfl⟩))
    | (go_at_call 69; go_must (refine (Kind_calls _ A c n).mono ?_; rw [← HKK.out]; rintro e w2 ⟨rfl, h⟩; have HB := Aside0.mk h; clear h)))
  go_ret
  exact ⟨rfl, HB.out⟩
set_option maxHeartbeats 8000000 in
set_option maxRecDepth 100000 in
theorem clusterNode (w : World) (g n : Nat) (h : ClusB w g 6) (h1 : 1 ≤ n) (h6 : n ≤ 6) : Calls Tryz.prog 16 #[.pointer (some ⟨g, 0, none⟩), .int .i64 n] w fun e w' => ∃ x, e = .returned (.pointer (some ⟨x, 0, none⟩)) ∧ NodeP w' (g + 1) x n ∧ Below w.heap.size w w' := by
  have HH := Aside0.mk h
  obtain ⟨cs, A, c, nb, hb, z1, z2, h4⟩ := h
  clear z1 z2
  obtain ⟨x, hx, hp⟩ := h4 (n - 1) (by omega) (by omega)
  rw [show (((n - 1 : Nat) : Int) + 1) = (n : Int) by omega] at hp
  have HP := Aside0.mk hp
  have HX := Aside0.mk (show w.cell? ⟨g, 26 + (n - 1), none⟩ = some (.pointer (some ⟨x, 0, none⟩)) by rw [cell_of_row w g _ _ _ _ hb]; exact hx)
  have hw : IntKind.i64.wrap ((n : Int) - 1) = ((n - 1 : Nat) : Int) := by
    rw [show (n : Int) - 1 = ((n - 1 : Nat) : Int) by omega]
    exact IntWalk.i64_in _ ⟨by omega, by omega⟩
  have hl : n - 1 < 12 := by omega
  clear hb h4 hx hp
  go_enter Tryz.func16, Tryz.ntmps16
  go_wp2_with (first
    | (go_at_call 43; go_must (refine (clusterThere _ g 6 n HH.out (by omega)).mono ?_; rintro e w1 ⟨rfl, h⟩; have HB := Aside0.mk h; have e0 := pw_cell_below h HX.out; clear h)))
  go_ret
  exact ⟨x, rfl, HP.out.below HB.out, HB.out⟩
set_option maxHeartbeats 8000000 in
set_option maxRecDepth 100000 in
theorem clusMade (w : World) (g : Nat) (h : ClusB w g 6) : Calls Tryz.prog 42 #[.pointer (some ⟨g, 0, none⟩)] w fun e w' => e = .returned (.bool true) ∧ Below w.heap.size w w' := by
  have HH := Aside0.mk h
  have HB := Aside0.mk (Below.refl w.heap.size w)
  obtain ⟨A, c, nb, _, m13⟩ := h.cells
  have HM := Aside0.mk m13
  clear h m13
  go_enter Tryz.func42, Tryz.ntmps42
  go_wp2_with (first
    | (go_at_call 71; go_must (refine (clusterNet _ g nb HM.out).mono ?_; rintro e w1 ⟨rfl, rfl⟩)))
  go_loopw [3] (fun v3 wr => ∃ (n : Nat), v3 = .int .i64 n ∧ 1 ≤ n ∧ n ≤ 7 ∧ Aside0 (Below w.heap.size w wr)) (fun v3 _ => 7 - (intOf v3).toNat)
  case atStart => exact ⟨1, rfl, by omega, by omega, HB⟩
  case round =>
    clear HB
    obtain ⟨n, rfl, h1, h7, HB⟩ := hrel
    by_cases hlt : n < 7
    · have hw : IntKind.i64.wrap ((n : Int) + 1) = (n : Int) + 1 := IntWalk.i64_in _ ⟨by omega, by omega⟩
      go_wp2_with (first
        | (go_at_call 16; go_must (refine (clusterNode _ g n (HH.out.below HB.out) h1 (by omega)).mono ?_; rintro e w2 ⟨x, rfl, hx, h⟩; have HN := Aside0.mk hx; have HB1 := Aside0.mk (below_step HB.out h); clear hx h HB))
        | (go_at_call 72; go_must (refine (nodeMade _ _ x n HN.out).mono ?_; rintro e w3 ⟨rfl, h⟩; have HB := Aside0.mk (below_step HB1.out h); clear h HB1)))
      go_roundw
      case rel => exact ⟨n + 1, by go_num, by omega, by omega, HB⟩
      case measure => simp [intOf]; omega
    · have he : n = 7 := by omega
      subst he
      go_wp2_with fail
      go_ret
      exact ⟨rfl, HB.out⟩
set_option maxHeartbeats 8000000 in
set_option maxRecDepth 100000 in
theorem Fresh_calls (w : World) : Calls Tryz.prog 15 #[] w fun e w' => ∃ g, e = .returned (.pointer (some ⟨g, 0, none⟩)) ∧ ClusB w' g 6 ∧ Below w.heap.size w w' := by
  go_enter Tryz.func15, Tryz.ntmps15
  go_wp2_with (first
    | (go_at_call 41; go_must (refine (Tree_calls _).mono ?_; rintro e w1 ⟨A, c, rfl, hc, hC, h⟩; have HC := Aside0.mk hC; have HL := Aside0.mk hc; have HB := Aside0.mk h; clear hC hc h))
    | (go_at_call 40; go_must (refine (clusterNew _ A c HC.out HL.out).mono ?_; rintro e w2 ⟨g, rfl, hx, h⟩; have HX := Aside0.mk hx; have HB1 := Aside0.mk (below_step HB.out h); clear hx h HB))
    | (go_at_call 42; go_must (refine (clusMade _ g HX.out).mono ?_; rintro e w3 ⟨rfl, h⟩; have HX1 := Aside0.mk (HX.out.below h); have HB := Aside0.mk (below_step HB1.out h); clear h HB1 HX)))
  go_ret
  exact ⟨g, rfl, HX1.out, HB.out⟩
set_option maxHeartbeats 8000000 in
set_option maxRecDepth 100000 in
theorem alive16 (w : World) : Calls Tryz.prog 5 #[] w fun e w' => e = .returned (.bool true) ∧ Below w.heap.size w w' := by
  have HB := Aside0.mk (Below.refl w.heap.size w)
  go_enter Tryz.func5, Tryz.ntmps5
  go_wp2_with (first
    | (go_at_call 15; go_must (refine (Fresh_calls _).mono ?_; rintro e w1 ⟨g, rfl, hx, h⟩; have HX := Aside0.mk hx; have HB1 := Aside0.mk (below_step HB.out h); clear hx h HB; have HB := HB1; clear HB1))
    | (go_at_call 16; go_must (refine (clusterNode _ g 2 HX.out (by omega) (by omega)).mono ?_; rintro e w2 ⟨x, rfl, hx, h⟩; have HN := Aside0.mk hx; have HX1 := Aside0.mk (HX.out.below h); have HB1 := Aside0.mk (below_step HB.out h); clear hx h HB HX; have HB := HB1; have HX := HX1; clear HB1 HX1; obtain ⟨_, gl, b, s, v, _, _, hn, hg, _⟩ := HN.out; have HE := Aside0.mk hn; have HG := Aside0.mk hg; clear hn hg))
    | (go_at_call 17; go_must (refine (nodeLog _ x gl (cell_of_row _ x 0 _ _ _ HE.out)).mono ?_; rintro e w3 ⟨rfl, rfl⟩))
    | (go_at_call 18; go_must (refine (logGen _ gl HG.out).mono ?_; rintro e w3 ⟨rfl, rfl⟩)))
  go_ret
  exact ⟨rfl, HB.out⟩
end Go.Proofs.YtmapdfommjcebaaGreat.Own
