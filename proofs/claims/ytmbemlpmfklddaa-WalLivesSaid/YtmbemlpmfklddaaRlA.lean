/- The reference's log: in memory; turn, Format, Room, Sync. -/
import Derived.Test.YtmbemlpmfklddaaRfC
namespace Go.Proofs.Ytmbemlpmfklddaa.Own
open Go.RowKit Go.Proofs.YtmbemlpmfklddaaW.PrintWords Go.Proofs.YtmbemlpmfklddaaW.PrintLast Go.Proofs.YtmbemlpmfklddaaW.PrintMore
section
variable {w W : World} {Ps : List Thing} {A B C D : Thing}
/-- The first of four goes behind the next three. -/
theorem Here.down (h : Here w W (A :: B :: C :: D :: Ps)) : Here w W (B :: C :: D :: A :: Ps) := h.perm (List.perm_middle (l₁ := [B, C, D]) (a := A) (l₂ := Ps)).symm
theorem Here.up (h : Here w W (B :: C :: D :: A :: Ps)) : Here w W (A :: B :: C :: D :: Ps) := h.perm (List.perm_middle (l₁ := [B, C, D]) (a := A) (l₂ := Ps))
end
/-- The reference's log, and its disk, in memory. -/
abbrev RlH (w W : World) (gr gx : Nat) (x : Lg) (sp : ByteArray) (d : Dm) (va vt : Value) (Ps : List Thing) : Prop :=
  Here w W (CellsT gr (rlC gx x sp) 101 :: CellsT gx (refC d va vt) 125 :: RawT 1 3 va (atsR d.q) :: RawT 1 9 vt (txtR d.q) :: Ps)
section
variable {w W : World} {Ps : List Thing} {gr gx : Nat} {x : Lg} {sp : ByteArray} {d : Dm} {va vt : Value}
theorem rl_cells {Qs : List Thing} (h : Here w W (CellsT gr (rlC gx x sp) 101 :: Qs)) : W.cell? ⟨gr, 0, none⟩ = some (.pointer (some ⟨gx, 0, none⟩)) ∧ W.cell? ⟨gr, 1, none⟩ = some (.int .u64 x.gen) ∧ W.cell? ⟨gr, 2, none⟩ = some (.int .i64 x.area) ∧ W.cell? ⟨gr, 3, none⟩ = some (.int .i64 x.tail) ∧
    W.cell? ⟨gr, 4, none⟩ = some (.int .i64 x.all) ∧ W.cell? ⟨gr, 5, none⟩ = some (.int .i64 x.sure) ∧ W.cell? ⟨gr, 6, none⟩ = some (.int .i64 x.stage) ∧ W.cell? ⟨gr, 7, none⟩ = some (.string sp) :=
  have hb := Here.cells h
  ⟨cell_of_row W gr 0 _ _ _ hb, cell_of_row W gr 1 _ _ _ hb, cell_of_row W gr 2 _ _ _ hb, cell_of_row W gr 3 _ _ _ hb, cell_of_row W gr 4 _ _ _ hb, cell_of_row W gr 5 _ _ _ hb, cell_of_row W gr 6 _ _ _ hb, cell_of_row W gr 7 _ _ _ hb⟩
theorem rl_frozen {Qs : List Thing} {g : Nat} {cs : Array Value} {t : TypeId} (h : Here w W (CellsT g cs t :: Qs)) (i : Nat) : W.frozen? ⟨g, i, none⟩ = false := blk_frozen (Here.cells h) i
theorem rl_disk (h : RlH w W gr gx x sp d va vt Ps) : RefH w W gx d va vt (CellsT gr (rlC gx x sp) 101 :: Ps) := Here.down h
theorem rl_back (h : RefH w W gx d va vt (CellsT gr (rlC gx x sp) 101 :: Ps)) : RlH w W gr gx x sp d va vt Ps := Here.up h
set_option maxHeartbeats 2000000 in
set_option maxRecDepth 100000 in
theorem RefTurn (h : RefH w W gx d va vt Ps) (ho : d.Ok) (hq : d.q.length ≤ 999990) (gen : Int) (area : Nat) (hg : 0 ≤ gen ∧ gen < 4294967296) (ha : area ≤ 1) :
    Calls Try.prog 84 #[.pointer (some ⟨gx, 0, none⟩), .int .u64 gen, .int .i64 area] W fun e W' => e = .returned (.tuple #[]) ∧ ∃ va' vt', RefH w W' gx (d.write (gen % 2 * 16) (slotB gen area)) va' vt' Ps := by
  have HH := Aside0.mk h
  have HO := Aside0.mk ho
  have hlo := ho.lo
  obtain ⟨s, hs⟩ : ∃ s, s = strOfNums (slotB gen area) := ⟨_, rfl⟩
  have HS := Aside0.mk hs
  have HF := Aside0.mk (show d.fits (gen % 2 * 16) (slotB gen area).length by unfold Dm.fits; rw [slotB_len]; omega)
  have u0 : gen.tmod 2 = gen % 2 := Int.tmod_eq_emod_of_nonneg hg.1
  have u1 : IntKind.i64.wrap (gen % 2) = gen % 2 := IntWalk.i64_in _ ⟨by omega, by omega⟩
  have u2 : IntKind.i64.wrap (16 * (gen % 2)) = 16 * (gen % 2) := IntWalk.i64_in _ ⟨by omega, by omega⟩
  have HE := Aside0.mk (show 16 * (gen % 2) = gen % 2 * 16 by omega)
  clear h ho hs
  go_enter Try.func84, Try.ntmps84
  go_wp2_with (first
    | (go_at_call 95; go_must (refine (RefSlot_eq gen area s HS.out _ hg (by omega)).mono ?_; rintro e w1 ⟨rfl, h⟩; have HI := Aside0.mk (HH.out.then_ h : RefH w w1 gx d va vt Ps); clear h HH))
    | (go_at_call 38; go_must (refine (RefWrite_int HI.out HO.out hq _ (gen % 2 * 16) (slotB gen area) s HE.out HS.out HF.out).mono ?_; rintro e w2 ⟨rfl, va', vt', h⟩; have HJ := Aside0.mk h; clear h HI)))
  go_end0
  exact ⟨rfl, va', vt', HJ.out⟩
set_option maxHeartbeats 2000000 in
set_option maxRecDepth 100000 in
theorem RlFormat (h : RefH w W gx d va vt Ps) (ho : d.Ok) (hq : d.q.length ≤ 999000) :
    Calls Try.prog 54 #[.pointer (some ⟨gx, 0, none⟩)] W fun e W' => ∃ gr va' vt', e = .returned (.pointer (some ⟨gr, 0, none⟩)) ∧ RlH w W' gr gx ⟨1, 0, 0, 0, 0, 0⟩ ⟨#[]⟩ d.format va' vt' Ps := by
  have HH := Aside0.mk h
  have HO := Aside0.mk ho
  have hlo := ho.lo
  have hhi := ho.hi
  obtain ⟨c0, _, _, _, _⟩ := ref_cells h
  have hl : (strOfNums d.b).size = d.b.length := strOfNums_size _
  obtain ⟨n, hn⟩ : ∃ n, n = d.b.length := ⟨_, rfl⟩
  obtain ⟨s, hs⟩ : ∃ s, s = strOfNums (List.replicate n 0) := ⟨_, rfl⟩
  have HS := Aside0.mk hs
  generalize strOfNums d.b = sb at c0 hl
  rw [← hn] at hl hlo hhi
  obtain ⟨d1, hd1⟩ : ∃ d1, d1 = d.write 0 (List.replicate n 0) := ⟨_, rfl⟩
  obtain ⟨d2, hd2⟩ : ∃ d2, d2 = d1.write 16 (slotB 1 0) := ⟨_, rfl⟩
  obtain ⟨d3, hd3⟩ : ∃ d3, d3 = d2.flush := ⟨_, rfl⟩
  have hf1 : d.fits 0 (List.replicate n (0 : Int)).length := by unfold Dm.fits; rw [List.length_replicate, hn]; omega
  have HF1 := Aside0.mk hf1
  have ho1 : d1.Ok := by rw [hd1]; exact Dm.ok_write ho hf1
  have HO1 := Aside0.mk ho1
  have hq1 : d1.q.length ≤ 999001 := by rw [hd1]; simp [Dm.write]; omega
  have ho2 : d2.Ok := by rw [hd2]; exact Dm.ok_write ho1 ⟨by omega, by omega, by rw [slotB_len]; have := ho1.lo; show _ ≤ (d1.b.length : Int); omega⟩
  have HO2 := Aside0.mk ho2
  have hq2 : d2.q.length ≤ 999002 := by rw [hd2]; simp [Dm.write]; omega
  have HD1 := Aside0.mk hd1
  have HD2 := Aside0.mk hd2
  have HD3 := Aside0.mk hd3
  have HFM := Aside0.mk (show d3 = d.format by rw [hd3, hd2, hd1, hn]; rfl)
  clear h ho hs hd1 hd2 hd3 hf1 ho1 ho2 hn
  go_enter Try.func54, Try.ntmps54
  go_wp2_with (first
    | (go_at_call 79; go_must (refine (RefZero_eq n s HS.out _ (by omega)).mono ?_; rintro e w1 ⟨rfl, hb⟩; have HI := Aside0.mk (HH.out.then_ hb : RefH w w1 gx d va vt Ps); clear hb HH c0))
    | (go_at_call 38; go_must (refine (RefWrite12 HI.out HO.out (by omega) 0 (List.replicate n 0) s HS.out HF1.out).mono ?_; rw [← HD1.out]; rintro e w2 ⟨rfl, va1, vt1, h⟩; have HJ := Aside0.mk h; clear h HI))
    | (go_at_call 84; go_must (refine (RefTurn HJ.out HO1.out (by omega) 1 0 ⟨by omega, by omega⟩ (by omega)).mono ?_; rintro e w3 ⟨rfl, va2, vt2, h⟩; have HK := Aside0.mk (show RefH w w3 gx d2 va2 vt2 Ps by rw [HD2.out]; exact h); clear h HJ))
    | (go_at_call 39; go_must (refine (RefFlush (fun _ h L hL => RefNow h HO2.out (by omega) L hL) HK.out HO2.out (by omega)).mono ?_; rw [← HD3.out]; rintro e w4 ⟨rfl, h⟩; have HL := Aside0.mk h; clear h HK)))
  go_ret
  have hy := HL.out.newCells (rlC gx ⟨1, 0, 0, 0, 0, 0⟩ ⟨#[]⟩) 101
  rw [HFM.out] at hy
  exact ⟨_, _, _, rfl, hy⟩
set_option maxHeartbeats 2000000 in
set_option maxRecDepth 100000 in
theorem RlRoom (h : RlH w W gr gx x sp d va vt Ps) (ho : d.Ok) (ht : x.tail ≤ Sz d) :
    Calls Try.prog 90 #[.pointer (some ⟨gr, 0, none⟩)] W fun e W' => e = .returned (.int .i64 ((Sz d - x.tail : Nat) : Int)) ∧ RlH w W' gr gx x sp d va vt Ps := by
  have HH := Aside0.mk h
  have hlo := ho.lo
  have hhi := ho.hi
  obtain ⟨c0, _, _, c3, _⟩ := rl_cells h
  obtain ⟨z, hz⟩ : ∃ z, z = Sz d := ⟨_, rfl⟩
  have HZ := Aside0.mk hz
  rw [← hz] at ht ⊢
  obtain ⟨t, ht2⟩ : ∃ t, t = x.tail := ⟨_, rfl⟩
  have hzl : z ≤ 262144 := by rw [hz]; unfold Sz; omega
  rw [← ht2] at ht c3 ⊢
  have u1 : IntKind.i64.wrap ((z : Int) - (t : Int)) = ((z - t : Nat) : Int) := by
    rw [show (z : Int) - (t : Int) = ((z - t : Nat) : Int) by omega]
    exact IntWalk.i64_in _ ⟨by omega, by omega⟩
  have K := Aside0.mk (And.intro c0 c3)
  clear h hz ht2
  go_enter Try.func90, Try.ntmps90
  go_wp2_with fail
  go_region_held3 (fun w' => w'.cell? ⟨gr, 0, none⟩ = some (.pointer (some ⟨gx, 0, none⟩)) ∧ w'.cell? ⟨gr, 3, none⟩ = some (.int .i64 t))
    (first
      | exact K.out)
    (first
      | (go_at_call 78; go_must (refine (RefSize (rl_disk HH.out.drew) (by omega) hhi).mono ?_; rw [← HZ.out]; rintro e w1 ⟨rfl, rfl⟩)))
  all_goals
    go_wp2_with fail
    go_ret
    exact ⟨rfl, HH.out.drew⟩
set_option maxHeartbeats 2000000 in
set_option maxRecDepth 100000 in
theorem RlSync (h : RlH w W gr gx x sp d va vt Ps) (ho : d.Ok) (hq : d.q.length ≤ 999000) :
    Calls Try.prog 86 #[.pointer (some ⟨gr, 0, none⟩)] W fun e W' => e = .returned (.tuple #[]) ∧ ∃ va' vt', RlH w W' gr gx { x with sure := x.all } sp d.flush va' vt' Ps := by
  have HH := Aside0.mk h
  have HO := Aside0.mk ho
  obtain ⟨c0, c1, c2, c3, c4, c5, c6, c7⟩ := rl_cells h
  clear h ho c1 c2 c3 c5 c6 c7
  go_enter Try.func86, Try.ntmps86
  go_wp2_with (go_at_call 39; go_must (refine (RefFlush (fun _ h L hL => RefNow h HO.out (by omega) L hL) (rl_disk HH.out) HO.out (by omega)).mono ?_; rintro e w4 ⟨rfl, h⟩; have HL := Aside0.mk (rl_back h); clear h HH c0 c4; obtain ⟨_, _, _, _, c4, c5, _, _⟩ := rl_cells HL.out; have f5 := rl_frozen HL.out 5))
  go_end0
  have hy := HL.out.putCell 5 (.int .i64 x.all)
  exact ⟨rfl, _, _, hy⟩
end
end Go.Proofs.Ytmbemlpmfklddaa.Own
