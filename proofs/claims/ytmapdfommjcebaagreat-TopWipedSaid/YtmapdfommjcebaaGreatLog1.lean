/- The log's small helpers: size, place, slot, noughts, turn. A log in memory; Format, made, All, Sure, Stage, Gen, Room, Sync. -/
import Derived.Test.YtmapdfommjcebaaGreatHr
import Derived.Laws.CopyRow
namespace Go.Proofs.YtmapdfommjcebaaGreat.Own
open Go.RowKit Go.Proofs.YtmapdfommjcebaaGreatW.PrintWords Go.Proofs.YtmapdfommjcebaaGreatW.PrintLast Go.Proofs.YtmapdfommjcebaaGreatW.PrintMore
def Sz (d : Dm) : Nat := (d.b.length - 32) / 2
def plc (d : Dm) (area at_ : Nat) : Nat := 32 + area * Sz d + at_
def slotB (gen area : Int) : List Int := [90] ++ fourB gen ++ [area % 256] ++ List.replicate 6 0 ++ fourB gen
theorem slotB_len (gen area : Int) : (slotB gen area).length = 16 := by simp [slotB, fourB]
theorem Here.diskOk {w W : World} {Ps : List Thing} {g : Nat} {d : Dm} (h : Here w W (DiskT g d :: Ps)) : d.Ok := by
  obtain ⟨S, h1, _⟩ := h.get
  exact IsDisk.ok h1
theorem setRow_under (w : World) (c c' : Array Value) (t : TypeId) (o : Obj) : ((w.alloc (.cells c t)).alloc o).setRow w.heap.size c' = (w.alloc (.cells c' t)).alloc o := by
  simp only [World.setRow, World.alloc]
  congr 1
  apply Array.ext_getElem?
  intro i
  rw [Array.getElem?_modify]
  by_cases h : w.heap.size = i
  · subst h
    simp [Array.getElem?_push]
  · have h' : ¬ i = w.heap.size := fun e => h e.symm
    simp [h, h', Array.getElem?_push]
theorem sz5 : (Tryz.prog.info? 5).map (·.size) = some 1 := by kernel_rfl
theorem four_at (W : World) (o : Obj) (a b c d : Int) (j : Nat) (v : Value) (hj : [Value.int .u8 a, .int .u8 b, .int .u8 c, .int .u8 d][j]? = some v) : ((W.alloc o).alloc (.cells #[.int .u8 a, .int .u8 b, .int .u8 c, .int .u8 d] 5)).cell? ((⟨W.heap.size + 1, 0, none⟩ : Addr).add j) = some v := by
  have hb : ((W.alloc o).alloc (.cells #[.int .u8 a, .int .u8 b, .int .u8 c, .int .u8 d] 5)).heap[W.heap.size + 1]? = some (.cells #[.int .u8 a, .int .u8 b, .int .u8 c, .int .u8 d] 5) := heap_at (by simp)
  rw [add_plain, cell_of_row _ _ j _ _ _ hb]
  simpa using hj
theorem copy16a (W : World) (x0 x1 x2 x3 x4 x5 x6 x7 x8 x9 x10 x11 x12 x13 x14 x15 : Value) (a b c d : Int) : (Builtin.copy_ #[29, 29] 3 #[.slice (some ⟨W.heap.size, 1, none⟩) 15 15, .slice (some ⟨W.heap.size + 1, 0, none⟩) 4 4]).run Tryz.prog ((W.alloc (.cells #[x0, x1, x2, x3, x4, x5, x6, x7, x8, x9, x10, x11, x12, x13, x14, x15] 5)).alloc (.cells #[.int .u8 a, .int .u8 b, .int .u8 c, .int .u8 d] 5)) =
    .ok (.int .i64 4) ((W.alloc (.cells #[x0, .int .u8 a, .int .u8 b, .int .u8 c, .int .u8 d, x5, x6, x7, x8, x9, x10, x11, x12, x13, x14, x15] 5)).alloc (.cells #[.int .u8 a, .int .u8 b, .int .u8 c, .int .u8 d] 5)) := by
  have h := run_copy_row (P := Tryz.prog) ((W.alloc (.cells #[x0, x1, x2, x3, x4, x5, x6, x7, x8, x9, x10, x11, x12, x13, x14, x15] 5)).alloc (.cells #[.int .u8 a, .int .u8 b, .int .u8 c, .int .u8 d] 5)) 29 29 3 5 W.heap.size 1 15 15 ⟨W.heap.size + 1, 0, none⟩ 4 4 #[x0, x1, x2, x3, x4, x5, x6, x7, x8, x9, x10, x11, x12, x13, x14, x15] 5 [.int .u8 a, .int .u8 b, .int .u8 c, .int .u8 d]
    Tryz.underlying29 sz5 (blk_alloc (heap_at rfl) _) rfl (four_at W _ a b c d) (by simp) (by simp [Value.oneCell'])
  rw [setRow_under] at h
  exact h
theorem copy16b (W : World) (x0 x1 x2 x3 x4 x5 x6 x7 x8 x9 x10 x11 x12 x13 x14 x15 : Value) (a b c d : Int) : (Builtin.copy_ #[29, 29] 3 #[.slice (some ⟨W.heap.size, 12, none⟩) 4 4, .slice (some ⟨W.heap.size + 1, 0, none⟩) 4 4]).run Tryz.prog ((W.alloc (.cells #[x0, x1, x2, x3, x4, x5, x6, x7, x8, x9, x10, x11, x12, x13, x14, x15] 5)).alloc (.cells #[.int .u8 a, .int .u8 b, .int .u8 c, .int .u8 d] 5)) =
    .ok (.int .i64 4) ((W.alloc (.cells #[x0, x1, x2, x3, x4, x5, x6, x7, x8, x9, x10, x11, .int .u8 a, .int .u8 b, .int .u8 c, .int .u8 d] 5)).alloc (.cells #[.int .u8 a, .int .u8 b, .int .u8 c, .int .u8 d] 5)) := by
  have h := run_copy_row (P := Tryz.prog) ((W.alloc (.cells #[x0, x1, x2, x3, x4, x5, x6, x7, x8, x9, x10, x11, x12, x13, x14, x15] 5)).alloc (.cells #[.int .u8 a, .int .u8 b, .int .u8 c, .int .u8 d] 5)) 29 29 3 5 W.heap.size 12 4 4 ⟨W.heap.size + 1, 0, none⟩ 4 4 #[x0, x1, x2, x3, x4, x5, x6, x7, x8, x9, x10, x11, x12, x13, x14, x15] 5 [.int .u8 a, .int .u8 b, .int .u8 c, .int .u8 d]
    Tryz.underlying29 sz5 (blk_alloc (heap_at rfl) _) rfl (four_at W _ a b c d) (by simp) (by simp [Value.oneCell'])
  rw [setRow_under] at h
  exact h
set_option maxHeartbeats 2000000 in
set_option maxRecDepth 100000 in
theorem slot_calls (gen area : Int) (w : World) (hg : 0 ≤ gen ∧ gen < 4294967296) (ha : 0 ≤ area ∧ area < 256) : Calls Tryz.prog 63 #[.int .u32 gen, .int .i64 area] w fun e w' => ∃ v, e = .returned v ∧ OwnB w' w.heap.size v (slotB gen area) ∧ Below w.heap.size w w' := by
  have hmk : ∀ W : World, (Instr.makeSlice 29 (.int .i64 16) (.int .i64 16)).run Tryz.prog W = .ok (.slice (some ⟨W.heap.size, 0, none⟩) 16 16) (W.alloc (.cells #[.int .u8 0, .int .u8 0, .int .u8 0, .int .u8 0, .int .u8 0, .int .u8 0, .int .u8 0, .int .u8 0, .int .u8 0, .int .u8 0, .int .u8 0, .int .u8 0, .int .u8 0, .int .u8 0, .int .u8 0, .int .u8 0] 5)) :=
    fun W => by
      have h := print_make (P := Tryz.prog) 29 5 .u8 1 Tryz.underlying29 info5 (by omega) 16 (by omega) W
      rw [show madeCells #[Value.int IntKind.u8 0] 16 = #[.int .u8 0, .int .u8 0, .int .u8 0, .int .u8 0, .int .u8 0, .int .u8 0, .int .u8 0, .int .u8 0, .int .u8 0, .int .u8 0, .int .u8 0, .int .u8 0, .int .u8 0, .int .u8 0, .int .u8 0, .int .u8 0] from by kernel_rfl] at h
      exact h
  have hc1 := copy16a
  have hc2 := copy16b
  go_enter Tryz.func63, Tryz.ntmps63
  go_wp2_with fail
  go_ret
  refine ⟨_, rfl, ?_, below_alloc (below_alloc (Below.refl _ _) _) _⟩
  have e : slotB gen area = [90, gen / 16777216, gen / 65536 % 256, gen / 256 % 256, gen % 256, area, 0, 0, 0, 0, 0, 0, gen / 16777216, gen / 65536 % 256, gen / 256 % 256, gen % 256] := by
    unfold slotB fourB
    rw [show gen / 16777216 % 256 = gen / 16777216 by omega, show area % 256 = area by omega]
    rfl
  rw [e]
  exact OwnB.below (own_lit w w.heap.size 5 .u8 [90, gen / 16777216, gen / 65536 % 256, gen / 256 % 256, gen % 256, area, 0, 0, 0, 0, 0, 0, gen / 16777216, gen / 65536 % 256, gen / 256 % 256, gen % 256] (Nat.le_refl _) (by simp)) (below_alloc (Below.refl _ _) _)
section
variable {w W : World} {Ps : List Thing} {g : Nat} {d : Dm}
set_option maxHeartbeats 1000000 in
set_option maxRecDepth 100000 in
theorem size_here (h : Here w W (DiskT g d :: Ps)) : Calls Tryz.prog 34 #[.pointer (some ⟨g, 0, none⟩)] W fun e W' => e = .returned (.int .i64 (Sz d)) ∧ W = W' := by
  have HH := Aside0.mk h
  have hk := h.diskOk
  have h1 := hk.lo
  have h2 := hk.hi
  have u1 : IntKind.i64.wrap ((d.b.length : Int) - 32) = (d.b.length : Int) - 32 := IntWalk.i64_in _ ⟨by omega, by omega⟩
  have u2 : IntKind.i64.wrap (((d.b.length : Int) - 32).tdiv 2) = (Sz d : Int) := by
    rw [Int.tdiv_eq_ediv_of_nonneg (by omega)]
    unfold Sz
    rw [show ((d.b.length : Int) - 32) / 2 = (((d.b.length - 32) / 2 : Nat) : Int) by omega]
    exact IntWalk.i64_in _ ⟨by omega, by omega⟩
  clear h hk
  go_enter Tryz.func34, Tryz.ntmps34
  go_wp2_with (go_at_call 39; go_must (refine (Size_here HH.out).mono ?_; rintro e w1 ⟨rfl, rfl⟩))
  go_ret
  exact ⟨rfl, rfl⟩
set_option maxHeartbeats 1000000 in
set_option maxRecDepth 100000 in
theorem place_here (h : Here w W (DiskT g d :: Ps)) (area at_ : Nat) (ha : area ≤ 1) (hat : at_ ≤ 262144) : Calls Tryz.prog 31 #[.pointer (some ⟨g, 0, none⟩), .int .i64 area, .int .i64 at_] W fun e W' => e = .returned (.int .i64 (plc d area at_)) ∧ W = W' := by
  have HH := Aside0.mk h
  have h2 := h.diskOk.hi
  obtain ⟨z, hz⟩ : ∃ z, z = Sz d := ⟨_, rfl⟩
  have hz2 : z ≤ 131072 := by rw [hz]; unfold Sz; omega
  have hm : area * z ≤ 131072 := Nat.le_trans (Nat.mul_le_mul_right z ha) (by omega)
  obtain ⟨m, hmm⟩ : ∃ m, m = area * z := ⟨_, rfl⟩
  rw [← hmm] at hm
  have u1 : IntKind.i64.wrap ((area : Int) * (z : Int)) = (m : Int) := by
    rw [hmm, ← Int.natCast_mul]
    exact IntWalk.i64_in _ ⟨by omega, by omega⟩
  have u2 : IntKind.i64.wrap (32 + (m : Int)) = 32 + (m : Int) := IntWalk.i64_in _ ⟨by omega, by omega⟩
  have u3 : IntKind.i64.wrap (32 + (m : Int) + (at_ : Int)) = 32 + (m : Int) + (at_ : Int) := IntWalk.i64_in _ ⟨by omega, by omega⟩
  have HZ := Aside0.mk hz
  have HM := Aside0.mk hmm
  clear h hz hmm
  go_enter Tryz.func31, Tryz.ntmps31
  go_wp2_with (go_at_call 34; go_must (refine (size_here HH.out).mono ?_; rw [← HZ.out]; rintro e w1 ⟨rfl, rfl⟩))
  go_ret
  refine ⟨?_, rfl⟩
  unfold plc
  rw [← HZ.out, ← HM.out]
  rfl
theorem made_C (W : World) (n : Nat) (hn : n ≤ 9223372036854775807) : (Kd.int .u8).C (W.alloc (.cells (madeCells #[.int .u8 0] n) 5)) (some ⟨W.heap.size, 0, none⟩) (List.replicate n (0 : Int)).length (List.replicate n 0) := by
  have h : OwnB (W.alloc (.cells (madeCells #[.int .u8 0] n) 5)) 0 (.slice (some ⟨W.heap.size, 0, none⟩) n n) (List.replicate n 0) := own_made' W 0 5 .u8 n (Nat.zero_le _) hn
  obtain ⟨A, c, e, _, h⟩ := h.slice
  injection e with e1 e2 e3
  subst e1
  exact h
theorem Write_n (h : Here w W (DiskT g d :: Ps)) (hq : d.q.length ≤ 1000000) (p : Int) (A : Option Addr) (n c : Nat) (l : List Int) (hn : n = l.length) (hl : (Kd.int .u8).C W A l.length l) (hf : d.fits p l.length) :
    Calls Tryz.prog 30 #[.pointer (some ⟨g, 0, none⟩), .int .i64 p, .slice A n c] W fun e W' => e = .returned (.int .i64 0) ∧ Here w W' (DiskT g (d.write p l) :: Ps) := by
  subst hn
  exact Write_here h hq p A c l hl hf
set_option maxHeartbeats 1000000 in
set_option maxRecDepth 100000 in
theorem noughts_here (h : Here w W (DiskT g d :: Ps)) (hq : d.q.length ≤ 1000000) (area f : Nat) (ha : area ≤ 1) (hf : f ≤ Sz d) :
    Calls Tryz.prog 35 #[.pointer (some ⟨g, 0, none⟩), .int .i64 area, .int .i64 f] W fun e W' => e = .returned (.tuple #[]) ∧ Here w W' (DiskT g (d.write (plc d area f) (List.replicate (Sz d - f) 0)) :: Ps) := by
  have HH := Aside0.mk h
  have h2 := h.diskOk.hi
  have h1 := h.diskOk.lo
  obtain ⟨z, hz⟩ : ∃ z, z = Sz d := ⟨_, rfl⟩
  have hz2 : 2 * z + 32 ≤ d.b.length := by rw [hz]; unfold Sz; omega
  obtain ⟨n, hn⟩ : ∃ n, n = z - f := ⟨_, rfl⟩
  rw [← hz] at hf
  have u1 : IntKind.i64.wrap ((z : Int) - (f : Int)) = (n : Int) := by
    rw [hn, show (z : Int) - (f : Int) = ((z - f : Nat) : Int) by omega]
    exact IntWalk.i64_in _ ⟨by omega, by omega⟩
  have hmk := print_make (P := Tryz.prog) 29 5 .u8 1 Tryz.underlying29 info5 (by omega) n (by omega)
  have HZ := Aside0.mk hz
  have HN := Aside0.mk hn
  obtain ⟨p, hp⟩ : ∃ p, p = plc d area f := ⟨_, rfl⟩
  have HP := Aside0.mk hp
  have HF := Aside0.mk (show d.fits p (List.replicate n (0 : Int)).length by
    rw [List.length_replicate, hp, hn]
    unfold plc Dm.fits
    rw [← hz]
    have : area * z ≤ 1 * z := Nat.mul_le_mul_right z ha
    omega)
  have hf2 : f ≤ 262144 := by omega
  have hnl : n ≤ 262144 := by omega
  clear h hz hn hp hf
  go_enter Tryz.func35, Tryz.ntmps35
  go_wp2_with (first
    | (go_at_call 31; go_must (refine (place_here HH.out area f ha hf2).mono ?_; rw [← HP.out]; rintro e w1 ⟨rfl, rfl⟩))
    | (go_at_call 34; go_must (refine (size_here HH.out).mono ?_; rw [← HZ.out]; rintro e w1 ⟨rfl, rfl⟩))
    | (go_at_call 30; go_must (refine (Write_n (HH.out.alloc _) hq p _ n n (List.replicate n 0) List.length_replicate.symm (made_C _ n (by omega)) HF.out).mono ?_; rintro e w3 ⟨rfl, h⟩; have HW := Aside0.mk h; clear h)))
  go_end0
  refine ⟨rfl, ?_⟩
  rw [← HP.out, ← HZ.out, ← HN.out]
  exact HW.out
set_option maxHeartbeats 1000000 in
set_option maxRecDepth 100000 in
theorem turn_here (h : Here w W (DiskT g d :: Ps)) (hq : d.q.length ≤ 1000000) (gen area : Int) (hg : 0 ≤ gen ∧ gen < 4294967296) (ha : 0 ≤ area ∧ area < 256) :
    Calls Tryz.prog 36 #[.pointer (some ⟨g, 0, none⟩), .int .u32 gen, .int .i64 area] W fun e W' => e = .returned (.tuple #[]) ∧ Here w W' (DiskT g (d.write (gen % 2 * 16) (slotB gen area)) :: Ps) := by
  have HH := Aside0.mk h
  have h1 := h.diskOk.lo
  obtain ⟨g0, g1⟩ := hg
  have u1 : IntKind.i64.wrap (gen % 2 * 16) = gen % 2 * 16 := IntWalk.i64_in _ ⟨by omega, by omega⟩
  have u2 : IntKind.i64.wrap (gen % 2) = gen % 2 := IntWalk.i64_in _ ⟨by omega, by omega⟩
  have u3 : gen.tmod 2 = gen % 2 := Int.tmod_eq_emod_of_nonneg g0
  have HF := Aside0.mk (show d.fits (gen % 2 * 16) (slotB gen area).length by rw [slotB_len]; unfold Dm.fits; omega)
  clear h
  go_enter Tryz.func36, Tryz.ntmps36
  go_wp2_with (first
    | (go_at_call 63; go_must (refine (slot_calls gen area _ ⟨g0, g1⟩ ha).mono ?_; rintro e w1 ⟨v, rfl, ho, hb⟩; have HB := Aside0.mk (HH.out.addBytes hb ho); obtain ⟨A, c, rfl, kc, _⟩ := ho.slice; clear ho hb HH))
    | (go_at_call 30; go_must (refine (Write_here HB.out.swap hq (gen % 2 * 16) A c (slotB gen area) (bytes_of HB.out) HF.out).mono ?_; rintro e w3 ⟨rfl, h⟩; have HW := Aside0.mk h; clear h)))
  go_end0
  exact ⟨rfl, HW.out.swap.drop⟩
end
end Go.Proofs.YtmapdfommjcebaaGreat.Own
namespace Go.Proofs.YtmapdfommjcebaaGreat.Own
open Go.RowKit Go.Proofs.YtmapdfommjcebaaGreatW.PrintWords Go.Proofs.YtmapdfommjcebaaGreatW.PrintLast Go.Proofs.YtmapdfommjcebaaGreatW.PrintMore
/-- A log: its generation, its area, its tail, two counts, a stage. -/
structure Lg where
  gen : Int
  area : Nat
  tail : Nat
  all : Nat
  sure : Nat
  stage : Nat
/-- A log's cells: the disk at block g, the parts in vp. -/
def lgC (g : Nat) (x : Lg) (vp : Value) : Array Value := #[.pointer (some ⟨g, 0, none⟩), .int .u32 x.gen, .int .i64 x.area, .int .i64 x.tail, .int .i64 x.all, .int .i64 x.sure, .int .i64 x.stage, vp]
def LogT (gl g : Nat) (x : Lg) (vp : Value) : Thing := CellsT gl (lgC g x vp) 79
section
variable {w W : World} {Ps : List Thing} {g gl : Nat} {d : Dm} {x : Lg} {vp : Value}
theorem Here.putCell {cs : Array Value} {t : TypeId} (h : Here w W (CellsT g cs t :: Ps)) (i : Nat) (u : Value) : Here w (W.setCell ⟨g, i, none⟩ u) (CellsT g (cs.setIfInBounds i u) t :: Ps) := by
  obtain ⟨S, ⟨h1, h1'⟩, _, h2⟩ := h.get
  exact h2 (P' := CellsT g (cs.setIfInBounds i u) t) (S' := S) ⟨blk_put h1 i u rfl, h1'⟩ (Chg.setCell (Chg.refl S W) (.inl ((h1' g).2 rfl)) _) (fun k hk => .inl hk)
theorem lg_cells (h : Here w W (LogT gl g x vp :: Ps)) : W.cell? ⟨gl, 0, none⟩ = some (.pointer (some ⟨g, 0, none⟩)) ∧ W.cell? ⟨gl, 1, none⟩ = some (.int .u32 x.gen) ∧ W.cell? ⟨gl, 2, none⟩ = some (.int .i64 x.area) ∧ W.cell? ⟨gl, 3, none⟩ = some (.int .i64 x.tail) ∧
    W.cell? ⟨gl, 4, none⟩ = some (.int .i64 x.all) ∧ W.cell? ⟨gl, 5, none⟩ = some (.int .i64 x.sure) ∧ W.cell? ⟨gl, 6, none⟩ = some (.int .i64 x.stage) ∧ W.cell? ⟨gl, 7, none⟩ = some vp :=
  have hb := Here.cells h
  ⟨cell_of_row W gl 0 _ _ _ hb, cell_of_row W gl 1 _ _ _ hb, cell_of_row W gl 2 _ _ _ hb, cell_of_row W gl 3 _ _ _ hb, cell_of_row W gl 4 _ _ _ hb, cell_of_row W gl 5 _ _ _ hb, cell_of_row W gl 6 _ _ _ hb, cell_of_row W gl 7 _ _ _ hb⟩
theorem lg_frozen (h : Here w W (LogT gl g x vp :: Ps)) (i : Nat) : W.frozen? ⟨gl, i, none⟩ = false := blk_frozen (Here.cells h) i
theorem lg_lt (h : Here w W (LogT gl g x vp :: Ps)) : gl < W.heap.size := blk_lt (Here.cells h)
/-- What a formatted disk has. -/
def Dm.format (d : Dm) : Dm := ((d.write 0 (List.replicate d.b.length 0)).write 16 (slotB 1 0)).flush
set_option maxHeartbeats 1000000 in
set_option maxRecDepth 100000 in
theorem Format_here (h : Here w W (DiskT g d :: Ps)) (hq : d.q.length ≤ 999000) :
    Calls Tryz.prog 14 #[.pointer (some ⟨g, 0, none⟩)] W fun e W' => ∃ gl, e = .returned (.tuple #[.pointer (some ⟨gl, 0, none⟩), .int .i64 0]) ∧ Here w W' (LogT gl g ⟨1, 0, 0, 0, 0, 0⟩ (.slice none 0 0) :: DiskT g d.format :: Ps) := by
  have HH := Aside0.mk h
  have h2 := h.diskOk.hi
  have h1 := h.diskOk.lo
  obtain ⟨n, hn⟩ : ∃ n, n = d.b.length := ⟨_, rfl⟩
  rw [← hn] at h1 h2
  have HN := Aside0.mk hn
  have hmk := print_make (P := Tryz.prog) 29 5 .u8 1 Tryz.underlying29 info5 (by omega) n (by omega)
  have HF := Aside0.mk (show d.fits 0 (List.replicate n (0 : Int)).length by rw [List.length_replicate]; unfold Dm.fits; omega)
  have q0 : ((n : Int) == 0) = false := beq_eq_false_iff_ne.mpr (by omega)
  have q1 : ¬ n = 0 := by omega
  clear h hn
  go_enter Tryz.func14, Tryz.ntmps14
  go_wp2_with (first
    | (go_at_call 39; go_must (refine (Size_here HH.out).mono ?_; rw [← HN.out]; rintro e w1 ⟨rfl, rfl⟩))
    | (go_at_call 30; go_must (refine (Write_n (HH.out.alloc _) (by omega) 0 _ n n (List.replicate n 0) List.length_replicate.symm (made_C _ n (by omega)) HF.out).mono ?_; rintro e w3 ⟨rfl, h⟩; have HW := Aside0.mk h; clear h HH))
    | (go_at_call 36; go_must (refine (turn_here HW.out (by simp only [Dm.write, List.length_append, List.length_singleton]; omega) 1 0 (by omega) (by omega)).mono ?_; rintro e w4 ⟨rfl, h⟩; have HX := Aside0.mk h; clear h HW))
    | (go_at_call 32; go_must (refine (Flush_here ((HX.out.newCells (lgC g ⟨1, 0, 0, 0, 0, 0⟩ (.slice none 0 0)) 79).swap) (by simp only [Dm.write, List.length_append, List.length_singleton]; omega)).mono ?_; rintro e w5 ⟨rfl, h⟩; have HY := Aside0.mk h; clear h HX)))
  go_ret2
  refine ⟨_, rfl, ?_⟩
  unfold Dm.format
  rw [← HN.out]
  exact HY.out.swap
set_option maxHeartbeats 400000 in
set_option maxRecDepth 100000 in
theorem made_here (h : Here w W (LogT gl g x vp :: Ps)) : Calls Tryz.prog 28 #[.pointer (some ⟨gl, 0, none⟩)] W fun e W' => e = .returned (.bool true) ∧ W = W' := by
  obtain ⟨c0, c1, c2, c3, c4, c5, c6, c7⟩ := lg_cells h
  clear h
  go_enter Tryz.func28, Tryz.ntmps28
  go_wp2_with fail
  go_ret
  exact ⟨rfl, rfl⟩
set_option maxHeartbeats 400000 in
set_option maxRecDepth 100000 in
theorem Gen_here (h : Here w W (LogT gl g x vp :: Ps)) : Calls Tryz.prog 18 #[.pointer (some ⟨gl, 0, none⟩)] W fun e W' => e = .returned (.int .u32 x.gen) ∧ W = W' := by
  obtain ⟨c0, c1, c2, c3, c4, c5, c6, c7⟩ := lg_cells h
  clear h
  go_enter Tryz.func18, Tryz.ntmps18
  go_wp2_with fail
  go_ret
  exact ⟨rfl, rfl⟩
set_option maxHeartbeats 1000000 in
set_option maxRecDepth 100000 in
theorem Room_here (h : Here w W (LogT gl g x vp :: DiskT g d :: Ps)) (ht : x.tail ≤ Sz d) : Calls Tryz.prog 29 #[.pointer (some ⟨gl, 0, none⟩)] W fun e W' => e = .returned (.int .i64 ((Sz d - x.tail : Nat) : Int)) ∧ Here w W' (LogT gl g x vp :: DiskT g d :: Ps) := by
  have HH := Aside0.mk h
  obtain ⟨c0, c1, c2, c3, c4, c5, c6, c7⟩ := lg_cells h
  have h2 := h.swap.diskOk.hi
  obtain ⟨z, hz⟩ : ∃ z, z = Sz d := ⟨_, rfl⟩
  have hz2 : z ≤ 131072 := by rw [hz]; unfold Sz; omega
  rw [← hz] at ht
  have u1 : IntKind.i64.wrap ((z : Int) - (x.tail : Int)) = ((z - x.tail : Nat) : Int) := by
    rw [show (z : Int) - (x.tail : Int) = ((z - x.tail : Nat) : Int) by omega]
    exact IntWalk.i64_in _ ⟨by omega, by omega⟩
  have HZ := Aside0.mk hz
  clear h hz
  go_enter Tryz.func29, Tryz.ntmps29
  go_wp2_with (go_at_call 28; go_must (refine (made_here HH.out).mono ?_; rintro e w1 ⟨rfl, rfl⟩))
  go_region_with (go_at_call 34; go_must (refine (size_here HH.out.drew.swap).mono ?_; rw [← HZ.out]; rintro e w1 ⟨rfl, rfl⟩))
  all_goals
    go_wp2_with fail
    go_ret
    rw [← HZ.out]
    exact ⟨rfl, HH.out.drew⟩
set_option maxHeartbeats 1000000 in
set_option maxRecDepth 100000 in
theorem Sync_here (h : Here w W (LogT gl g x vp :: DiskT g d :: Ps)) (hq : d.q.length ≤ 1000000) : Calls Tryz.prog 8 #[.pointer (some ⟨gl, 0, none⟩)] W fun e W' => e = .returned (.int .i64 0) ∧ Here w W' (LogT gl g { x with sure := x.all } vp :: DiskT g d.flush :: Ps) := by
  have HH := Aside0.mk h
  obtain ⟨c0, c1, c2, c3, c4, c5, c6, c7⟩ := lg_cells h
  have f5 := lg_frozen h 5
  clear h
  go_enter Tryz.func8, Tryz.ntmps8
  go_wp2_with (first
    | (go_at_call 28; go_must (refine (made_here HH.out).mono ?_; rintro e w1 ⟨rfl, rfl⟩))
    | (go_at_call 32; go_must (refine (Flush_here (HH.out.putCell 5 (.int .i64 x.all)).swap hq).mono ?_; rintro e w2 ⟨rfl, h⟩; have HY := Aside0.mk h.swap; clear h)))
  go_ret
  exact ⟨rfl, HY.out⟩
end
end Go.Proofs.YtmapdfommjcebaaGreat.Own
