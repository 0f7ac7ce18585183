/- Reading a slot. Areas. Bytes are below 256: of lists, of a disk. What stands on a disk, told. -/
import Derived.Test.YtmbemlpmfklddaaLog1
import Derived.Deep.RegionHeld3
namespace Go.Proofs.Ytmbemlpmfklddaa.Own
open Go.RowKit Go.Proofs.YtmbemlpmfklddaaW.PrintWords Go.Proofs.YtmbemlpmfklddaaW.PrintLast Go.Proofs.YtmbemlpmfklddaaW.PrintMore
/-- The generation that a slot's bytes tell. -/
def genB (s : List Int) : Int := s.getD 1 0 * 16777216 + s.getD 2 0 * 65536 + s.getD 3 0 * 256 + s.getD 4 0
/-- What slot i tells: its generation and its area; 0, 0: nothing. -/
def toldR (s : List Int) (i : Nat) : Int × Nat :=
  if genB s ≠ 0 ∧ genB s % 2 = i ∧ s.getD 5 0 < 2 ∧ slotB (genB s) (s.getD 5 0) = s then (genB s, (s.getD 5 0).toNat) else (0, 0)
theorem or_u32 (s : Nat) (x y : Int) (h0 : 0 ≤ x) (hd : x % 2 ^ s = 0) (hx : x < 4294967296) (h1 : 0 ≤ y) (h2 : y < 2 ^ s) (h3 : x + y < 4294967296) : bits .or .u32 x y = x + y := by
  have e32 : (2 : Int) ^ 32 = 4294967296 := by decide
  exact bits_join .u32 32 (by decide) (fun n a b => by
    rw [e32] at b
    simp [IntKind.wrap, IntKind.signed, IntKind.bits]
    omega) s x y h0 hd (by rw [e32]; exact hx) h1 h2 (by rw [e32]; omega)
theorem Equal_n (A0 A1 : Option Addr) (c0 c1 n1 : Nat) (l0 l1 : List Int) (w : World) (h0 : (Kd.int .u8).C w A0 l0.length l0) (h1 : (Kd.int .u8).C w A1 l1.length l1) (k0 : l0.length ≤ c0) (k1 : l1.length ≤ c1) (hm : l0.length ≤ 9223372036854775806) (hn : n1 = l1.length) :
    Calls Try.prog 93 #[.slice A0 l0.length c0, .slice A1 n1 c1] w fun e w' => e = .returned (.bool (decide (l0 = l1))) ∧ Drawn0 w w' := by
  subst hn
  exact Equal_calls A0 A1 c0 c1 l0 l1 w h0 h1 k0 k1 hm
section
variable {w W : World} {Ps : List Thing} {g : Nat} {d : Dm}
set_option maxHeartbeats 8000000 in
set_option maxRecDepth 100000 in
theorem read_here (h : Here w W (DiskT g d :: Ps)) (hq : d.q.length ≤ 1000000) (i : Nat) (hi : i ≤ 1) (hr : ∀ x ∈ d.read (i * 16) 16, 0 ≤ x ∧ x < 256) (hl : (d.read (i * 16) 16).length = 16) :
    Calls Try.prog 72 #[.pointer (some ⟨g, 0, none⟩), .int .i64 i] W fun e W' => e = .returned (.tuple #[.int .u32 (toldR (d.read (i * 16) 16) i).1, .int .i64 (toldR (d.read (i * 16) 16) i).2]) ∧ Here w W' (DiskT g d :: Ps) := by
  have HH := Aside0.mk h
  have hlo := h.diskOk.lo
  have HF := Aside0.mk (show d.fits (i * 16 : Nat) 16 by unfold Dm.fits; omega)
  have u1 : IntKind.i64.wrap ((i : Int) * 16) = ((i * 16 : Nat) : Int) := by
    rw [show (i : Int) * 16 = ((i * 16 : Nat) : Int) by omega]
    exact IntWalk.i64_in _ ⟨by omega, by omega⟩
  obtain ⟨s, hs⟩ : ∃ s, s = d.read (i * 16) 16 := ⟨_, rfl⟩
  rw [← hs] at hr hl ⊢
  have HS := Aside0.mk hs
  have HL := Aside0.mk hl
  have HR := Aside0.mk hr
  have h0 : ∀ j, j < 16 → 0 ≤ s.getD j 0 ∧ s.getD j 0 < 256 := by
    intro j hj
    have hjl : j < s.length := by omega
    rw [List.getD_eq_getElem?_getD, List.getElem?_eq_getElem hjl]
    exact hr _ (List.getElem_mem hjl)
  have r1 := h0 1 (by omega)
  have r2 := h0 2 (by omega)
  have r3 := h0 3 (by omega)
  have r4 := h0 4 (by omega)
  have r5 := h0 5 (by omega)
  clear h hs hr hl h0
  obtain ⟨y1, hy1⟩ : ∃ y, y = s.getD 1 0 := ⟨_, rfl⟩
  obtain ⟨y2, hy2⟩ : ∃ y, y = s.getD 2 0 := ⟨_, rfl⟩
  obtain ⟨y3, hy3⟩ : ∃ y, y = s.getD 3 0 := ⟨_, rfl⟩
  obtain ⟨y4, hy4⟩ : ∃ y, y = s.getD 4 0 := ⟨_, rfl⟩
  obtain ⟨y5, hy5⟩ : ∃ y, y = s.getD 5 0 := ⟨_, rfl⟩
  rw [← hy1] at r1
  rw [← hy2] at r2
  rw [← hy3] at r3
  rw [← hy4] at r4
  rw [← hy5] at r5
  have HY1 := Aside0.mk hy1
  have HY2 := Aside0.mk hy2
  have HY3 := Aside0.mk hy3
  have HY4 := Aside0.mk hy4
  have HY5 := Aside0.mk hy5
  obtain ⟨g1, hg1⟩ : ∃ g1, g1 = y1 * 16777216 + y2 * 65536 := ⟨_, rfl⟩
  obtain ⟨g2, hg2⟩ : ∃ g2, g2 = g1 + y3 * 256 := ⟨_, rfl⟩
  obtain ⟨G, hG⟩ : ∃ G, G = g2 + y4 := ⟨_, rfl⟩
  have o1 : bits .or .u32 (y1 * 16777216) (y2 * 65536) = g1 := by
    rw [hg1]
    exact or_u32 24 _ _ (by omega) (by omega) (by omega) (by omega) (by omega) (by omega)
  have o2 : bits .or .u32 g1 (y3 * 256) = g2 := by
    rw [hg2]
    exact or_u32 16 _ _ (by omega) (by omega) (by omega) (by omega) (by omega) (by omega)
  have o3 : bits .or .u32 g2 y4 = G := by
    rw [hG]
    exact or_u32 8 _ _ (by omega) (by omega) (by omega) (by omega) (by omega) (by omega)
  have hGr : 0 ≤ G ∧ G < 4294967296 := by omega
  have HGB := Aside0.mk (show genB s = G by unfold genB; rw [← hy1, ← hy2, ← hy3, ← hy4]; omega)
  have u2 : IntKind.i64.wrap (G % 2) = G % 2 := IntWalk.i64_in _ ⟨by omega, by omega⟩
  have u3 : G.tmod 2 = G % 2 := Int.tmod_eq_emod_of_nonneg hGr.1
  have u4 : IntKind.i64.wrap y5 = y5 := IntWalk.i64_in _ ⟨by omega, by omega⟩
  clear hy1 hy2 hy3 hy4 hg1 hg2 hG
  have HT := Aside0.mk (show toldR s i = if G ≠ 0 ∧ G % 2 = i ∧ y5 < 2 ∧ slotB G y5 = s then (G, y5.toNat) else (0, 0) by unfold toldR; rw [HGB.out, ← HY5.out])
  clear hy5
  by_cases gall : G ≠ 0 ∧ G % 2 = i ∧ y5 < 2
  · obtain ⟨z1, z2, z3⟩ := gall
    have p1 : (G == 0) = false := beq_eq_false_iff_ne.mpr z1
    have p2 : (G % 2 != (i : Int)) = false := by rw [z2]; exact bne_self_eq_false _
    have p3 : decide ((2 : Int) ≤ y5) = false := decide_eq_false (by omega)
    have HZ := Aside0.mk (And.intro z1 (And.intro z2 z3))
    clear z2
    by_cases hE : slotB G y5 = s
    · have p4 : decide (slotB G y5 = s) = true := decide_eq_true hE
      have HTT := Aside0.mk (show toldR s i = (G, y5.toNat) by rw [HT.out, if_pos ⟨HZ.out.1, HZ.out.2.1, HZ.out.2.2, hE⟩])
      clear hE
      go_enter Try.func72, Try.ntmps72
      go_wp2_with (first
        | (go_at_call 24; go_must (refine (Read_here HH.out hq (i * 16) 16 HF.out).mono ?_; rw [← HS.out]; rintro e w1 ⟨v, rfl, h⟩; obtain ⟨gs, cs, rfl, ks⟩ := h.row (by rw [HL.out]; omega); rw [HL.out] at h ks ⊢; have HB := Aside0.mk h; clear h HH)))
      obtain ⟨b1, _⟩ := HB.out.byteAt 1 (by omega)
      obtain ⟨b2, _⟩ := HB.out.byteAt 2 (by omega)
      obtain ⟨b3, _⟩ := HB.out.byteAt 3 (by omega)
      obtain ⟨b4, _⟩ := HB.out.byteAt 4 (by omega)
      obtain ⟨b5, _⟩ := HB.out.byteAt 5 (by omega)
      rw [← HY1.out] at b1
      rw [← HY2.out] at b2
      rw [← HY3.out] at b3
      rw [← HY4.out] at b4
      rw [← HY5.out] at b5
      go_region_held3 (fun w' => w'.cell? ⟨gs, 1, none⟩ = some (.int .u8 y1) ∧ w'.cell? ⟨gs, 2, none⟩ = some (.int .u8 y2) ∧ w'.cell? ⟨gs, 3, none⟩ = some (.int .u8 y3) ∧ w'.cell? ⟨gs, 4, none⟩ = some (.int .u8 y4))
        (first
          | exact ⟨b1, b2, b3, b4⟩)
        (first
          | fail)
      all_goals
        go_wp2_with (first
          | (go_at_call 94; go_must (refine (slot_calls G y5 _ hGr (by omega)).mono ?_; rintro e w2 ⟨v, rfl, ho, hb⟩; have HC := Aside0.mk (HB.out.drew.addBytes hb ho); obtain ⟨As, ca, rfl, ka, _⟩ := ho.slice; clear ho hb))
          | (go_at_call 93; go_must (refine (Equal_n As _ ca cs 16 (slotB G y5) s _ (bytes_of HC.out) (bytes_of HC.out.swap) ka (by rw [HL.out]; exact ks) (by rw [slotB_len]; omega) HL.out.symm).mono ?_; rw [p4]; rintro e w3 ⟨rfl, hd⟩; have HD := Aside0.mk (HC.out.then_ hd.below); clear hd)))
        go_ret2
        rw [HTT.out]
        exact ⟨by rw [show (G, y5.toNat).2 = y5.toNat from rfl, Int.toNat_of_nonneg r5.1]; rfl, HD.out.drop.drop⟩
    · have p4 : decide (slotB G y5 = s) = false := decide_eq_false hE
      have HTT := Aside0.mk (show toldR s i = (0, 0) by rw [HT.out, if_neg (fun h => hE h.2.2.2)])
      clear hE
      go_enter Try.func72, Try.ntmps72
      go_wp2_with (first
        | (go_at_call 24; go_must (refine (Read_here HH.out hq (i * 16) 16 HF.out).mono ?_; rw [← HS.out]; rintro e w1 ⟨v, rfl, h⟩; obtain ⟨gs, cs, rfl, ks⟩ := h.row (by rw [HL.out]; omega); rw [HL.out] at h ks ⊢; have HB := Aside0.mk h; clear h HH)))
      obtain ⟨b1, _⟩ := HB.out.byteAt 1 (by omega)
      obtain ⟨b2, _⟩ := HB.out.byteAt 2 (by omega)
      obtain ⟨b3, _⟩ := HB.out.byteAt 3 (by omega)
      obtain ⟨b4, _⟩ := HB.out.byteAt 4 (by omega)
      obtain ⟨b5, _⟩ := HB.out.byteAt 5 (by omega)
      rw [← HY1.out] at b1
      rw [← HY2.out] at b2
      rw [← HY3.out] at b3
      rw [← HY4.out] at b4
      rw [← HY5.out] at b5
      go_region_held3 (fun w' => w'.cell? ⟨gs, 1, none⟩ = some (.int .u8 y1) ∧ w'.cell? ⟨gs, 2, none⟩ = some (.int .u8 y2) ∧ w'.cell? ⟨gs, 3, none⟩ = some (.int .u8 y3) ∧ w'.cell? ⟨gs, 4, none⟩ = some (.int .u8 y4))
        (first
          | exact ⟨b1, b2, b3, b4⟩)
        (first
          | fail)
      all_goals
        go_wp2_with (first
          | (go_at_call 94; go_must (refine (slot_calls G y5 _ hGr (by omega)).mono ?_; rintro e w2 ⟨v, rfl, ho, hb⟩; have HC := Aside0.mk (HB.out.drew.addBytes hb ho); obtain ⟨As, ca, rfl, ka, _⟩ := ho.slice; clear ho hb))
          | (go_at_call 93; go_must (refine (Equal_n As _ ca cs 16 (slotB G y5) s _ (bytes_of HC.out) (bytes_of HC.out.swap) ka (by rw [HL.out]; exact ks) (by rw [slotB_len]; omega) HL.out.symm).mono ?_; rw [p4]; rintro e w3 ⟨rfl, hd⟩; have HD := Aside0.mk (HC.out.then_ hd.below); clear hd)))
        go_ret2
        rw [HTT.out]
        exact ⟨rfl, HD.out.drop.drop⟩
  · have HTT := Aside0.mk (show toldR s i = (0, 0) by rw [HT.out, if_neg (fun h => gall ⟨h.1, h.2.1, h.2.2.1⟩)])
    have hcs : (G == 0) = true ∨ ((G == 0) = false ∧ (G % 2 != (i : Int)) = true) ∨ ((G == 0) = false ∧ (G % 2 != (i : Int)) = false ∧ decide ((2 : Int) ≤ y5) = true) := by
      by_cases h1 : G = 0
      · exact .inl (beq_iff_eq.mpr h1)
      · by_cases h2 : G % 2 = i
        · exact .inr (.inr ⟨beq_eq_false_iff_ne.mpr h1, by rw [h2]; exact bne_self_eq_false _, decide_eq_true (by by_cases h3 : y5 < 2; exact absurd ⟨h1, h2, h3⟩ gall; omega)⟩)
        · exact .inr (.inl ⟨beq_eq_false_iff_ne.mpr h1, bne_iff_ne.mpr h2⟩)
    clear gall
    rcases hcs with p1 | ⟨p1, p2⟩ | ⟨p1, p2, p3⟩
    all_goals
      go_enter Try.func72, Try.ntmps72
      go_wp2_with (first
        | (go_at_call 24; go_must (refine (Read_here HH.out hq (i * 16) 16 HF.out).mono ?_; rw [← HS.out]; rintro e w1 ⟨v, rfl, h⟩; obtain ⟨gs, cs, rfl, ks⟩ := h.row (by rw [HL.out]; omega); rw [HL.out] at h ks ⊢; have HB := Aside0.mk h; clear h HH)))
      obtain ⟨b1, _⟩ := HB.out.byteAt 1 (by omega)
      obtain ⟨b2, _⟩ := HB.out.byteAt 2 (by omega)
      obtain ⟨b3, _⟩ := HB.out.byteAt 3 (by omega)
      obtain ⟨b4, _⟩ := HB.out.byteAt 4 (by omega)
      obtain ⟨b5, _⟩ := HB.out.byteAt 5 (by omega)
      rw [← HY1.out] at b1
      rw [← HY2.out] at b2
      rw [← HY3.out] at b3
      rw [← HY4.out] at b4
      rw [← HY5.out] at b5
      go_region_held3 (fun w' => w'.cell? ⟨gs, 1, none⟩ = some (.int .u8 y1) ∧ w'.cell? ⟨gs, 2, none⟩ = some (.int .u8 y2) ∧ w'.cell? ⟨gs, 3, none⟩ = some (.int .u8 y3) ∧ w'.cell? ⟨gs, 4, none⟩ = some (.int .u8 y4))
        (first
          | exact ⟨b1, b2, b3, b4⟩)
        (first
          | fail)
      all_goals
        go_wp2_with fail
        go_ret2
        rw [HTT.out]
        exact ⟨rfl, HB.out.drew.drop⟩
end
end Go.Proofs.Ytmbemlpmfklddaa.Own
namespace Go.Proofs.Ytmbemlpmfklddaa.Own
open Go.RowKit Go.Proofs.YtmbemlpmfklddaaW.PrintWords Go.Proofs.YtmbemlpmfklddaaW.PrintLast Go.Proofs.YtmbemlpmfklddaaW.PrintMore
section
variable {w W : World} {Ps : List Thing} {g : Nat} {d : Dm}
theorem cellsA_of {g : Nat} {a b : Value} {t : TypeId} (h : Here w W (CellsT g #[a, b] t :: Ps)) : W.cell? ⟨g, 0, none⟩ = some a ∧ W.cell? ⟨g, 1, none⟩ = some b ∧ W.frozen? ⟨g, 0, none⟩ = false ∧ W.frozen? ⟨g, 1, none⟩ = false ∧ g < W.heap.size :=
  ⟨cell_of_row W g 0 _ _ _ h.cells, cell_of_row W g 1 _ _ _ h.cells, blk_frozen h.cells 0, blk_frozen h.cells 1, blk_lt h.cells⟩
set_option maxHeartbeats 4000000 in
set_option maxRecDepth 100000 in
theorem Areas_here (h : Here w W (DiskT g d :: Ps)) (hq : d.q.length ≤ 1000000) :
    Calls Try.prog 50 #[.pointer (some ⟨g, 0, none⟩)] W fun e W' => ∃ v0 v1, e = .returned (.tuple #[.agg #[v0, v1], .int .i64 0]) ∧ Here w W' (DiskT g d :: BytesT v0 (d.read (plc d 0 0) (Sz d)) :: BytesT v1 (d.read (plc d 1 0) (Sz d)) :: Ps) := by
  have HH := Aside0.mk ((h.newCells #[.slice none 0 0, .slice none 0 0] 90).newCells #[.slice none 0 0, .slice none 0 0] 90)
  have hz2 : 2 * Sz d + 32 ≤ d.b.length := by unfold Sz; have := h.diskOk.lo; omega
  obtain ⟨z, hz⟩ : ∃ z, z = Sz d := ⟨_, rfl⟩
  rw [← hz] at hz2
  have HZ := Aside0.mk hz
  obtain ⟨p0, hp0⟩ : ∃ p, p = plc d 0 0 := ⟨_, rfl⟩
  obtain ⟨p1, hp1⟩ : ∃ p, p = plc d 1 0 := ⟨_, rfl⟩
  have HP0 := Aside0.mk hp0
  have HP1 := Aside0.mk hp1
  have HF0 := Aside0.mk (show d.fits p0 z by rw [hp0]; unfold plc Dm.fits; rw [← hz]; omega)
  have HF1 := Aside0.mk (show d.fits p1 z by rw [hp1]; unfold plc Dm.fits; rw [← hz]; omega)
  clear h hz hp0 hp1
  have e : (W.alloc (.cells #[.slice none 0 0, .slice none 0 0] 90)).heap.size = W.heap.size + 1 := by simp
  rw [e] at HH
  clear e
  go_enter Try.func50, Try.ntmps50
  go_wp2_with fail
  go_loopw [8] (fun v8 wr => ∃ (v0 v1 : Value) (i : Nat) (Qs : List Thing), v8 = .int .i64 i ∧ Aside0 (Here w wr (CellsT (W.heap.size + 1) #[v0, v1] 90 :: CellsT W.heap.size #[.slice none 0 0, .slice none 0 0] 90 :: DiskT g d :: Qs)) ∧
      Aside0 ((i = 0 ∧ Qs = Ps) ∨ (i = 1 ∧ Qs = BytesT v0 (d.read p0 z) :: Ps) ∨ (i = 2 ∧ Qs = BytesT v1 (d.read p1 z) :: BytesT v0 (d.read p0 z) :: Ps))) (fun v8 _ => 2 - (intOf v8).toNat)
  case atStart => exact ⟨_, _, 0, Ps, rfl, HH, ⟨.inl ⟨rfl, rfl⟩⟩⟩
  case round =>
    clear HH
    obtain ⟨v0, v1, i, Qs, rfl, HI, HQ⟩ := hrel
    rcases HQ.out with ⟨rfl, rfl⟩ | ⟨rfl, rfl⟩ | ⟨rfl, rfl⟩
    · have q1 : decide ((0 : Int) < 2) = true := by decide
      obtain ⟨e0, e1, f0, f1, el⟩ := cellsA_of HI.out
      go_wp2_with (first
        | (go_at_call 73; go_must (refine (place_here (Here.nth HI.out 2 (by simp)) 0 0 (by omega) (by omega)).mono ?_; rw [← HP0.out]; rintro e w1 ⟨rfl, rfl⟩))
        | (go_at_call 74; go_must (refine (size_here (Here.nth HI.out 2 (by simp))).mono ?_; rw [← HZ.out]; rintro e w1 ⟨rfl, rfl⟩))
        | (go_at_call 24; go_must (refine (Read_here (Here.nth HI.out 2 (by simp)) hq _ z HF0.out).mono ?_; rintro e w2 ⟨v, rfl, h⟩; obtain ⟨A6, c6, hv, k6, _⟩ := h.bytes.slice; obtain ⟨n6, hn6⟩ : ∃ n6, n6 = (d.read p0 z).length := ⟨_, rfl⟩; rw [← hn6] at hv; clear k6 hn6; subst hv; have HJ := Aside0.mk (Here.nth h 2 (by simp)); clear h e0 e1 f0 f1 el; obtain ⟨e0, e1, f0, f1, el⟩ := cellsA_of HJ.out)))
      have hy := HJ.out.putCell 0 (.slice A6 n6 c6)
      have HY := Aside0.mk (Here.nth (Here.nth (Here.nth (Here.nth hy 3 (by simp)) 3 (by simp)) 1 (by simp)) 2 (by simp))
      clear hy
      go_roundw
      case rel => exact ⟨_, _, 1, _, rfl, HY, ⟨.inr (.inl ⟨rfl, rfl⟩)⟩⟩
      case measure => simp [intOf]
    · have q1 : decide ((1 : Int) < 2) = true := by decide
      obtain ⟨e0, e1, f0, f1, el⟩ := cellsA_of HI.out
      go_wp2_with (first
        | (go_at_call 73; go_must (refine (place_here (Here.nth HI.out 2 (by simp)) 1 0 (by omega) (by omega)).mono ?_; rw [← HP1.out]; rintro e w1 ⟨rfl, rfl⟩))
        | (go_at_call 74; go_must (refine (size_here (Here.nth HI.out 2 (by simp))).mono ?_; rw [← HZ.out]; rintro e w1 ⟨rfl, rfl⟩))
        | (go_at_call 24; go_must (refine (Read_here (Here.nth HI.out 2 (by simp)) hq _ z HF1.out).mono ?_; rintro e w2 ⟨v, rfl, h⟩; obtain ⟨A6, c6, hv, k6, _⟩ := h.bytes.slice; obtain ⟨n6, hn6⟩ : ∃ n6, n6 = (d.read p1 z).length := ⟨_, rfl⟩; rw [← hn6] at hv; clear k6 hn6; subst hv; have HJ := Aside0.mk (Here.nth h 2 (by simp)); clear h e0 e1 f0 f1 el; obtain ⟨e0, e1, f0, f1, el⟩ := cellsA_of HJ.out)))
      have hy := HJ.out.putCell 1 (.slice A6 n6 c6)
      have HY := Aside0.mk (Here.nth (Here.nth (Here.nth (Here.nth hy 3 (by simp)) 3 (by simp)) 1 (by simp)) 2 (by simp))
      clear hy
      go_roundw
      case rel => exact ⟨_, _, 2, _, rfl, HY, ⟨.inr (.inr ⟨rfl, rfl⟩)⟩⟩
      case measure => simp [intOf]
    · have q1 : decide ((2 : Int) < 2) = false := by decide
      obtain ⟨A1, c1, hv1, k1, _⟩ := (Here.nth HI.out 3 (by simp)).bytes.slice
      obtain ⟨A0, c0, hv0, k0, _⟩ := (Here.nth HI.out 4 (by simp)).bytes.slice
      obtain ⟨n1, hn1⟩ : ∃ n1, n1 = (d.read p1 z).length := ⟨_, rfl⟩
      obtain ⟨n0, hn0⟩ : ∃ n0, n0 = (d.read p0 z).length := ⟨_, rfl⟩
      rw [← hn1] at hv1
      rw [← hn0] at hv0
      clear k0 k1 hn0 hn1
      subst hv0 hv1
      obtain ⟨e0, e1, f0, f1, el⟩ := cellsA_of HI.out
      obtain ⟨r0, r1, s0, s1, rl⟩ := cellsA_of HI.out.swap
      go_wp2_with fail
      have HY := Aside0.mk ((HI.out.swap.putCell 0 (.slice A0 n0 c0)).putCell 1 (.slice A1 n1 c1))
      refine bodyPost_ret (results_ct rfl _ _ W.heap.size 90 #[.slice A0 n0 c0, .slice A1 n1 c1] (0, 0) _ rfl HY.out.cells Try.underlying90 rfl (by kernel_rfl)) rfl ?_
      rw [← HZ.out, ← HP0.out, ← HP1.out]
      exact ⟨_, _, rfl, HY.out.drop.drop.third.swap⟩
end
end Go.Proofs.Ytmbemlpmfklddaa.Own
namespace Go.Proofs.Ytmbemlpmfklddaa.Own
open Go.RowKit
def Byt (l : List Int) : Prop := ∀ x ∈ l, 0 ≤ x ∧ x < 256
theorem Byt.nil : Byt [] := fun x hx => by simp at hx
theorem Byt.append {a b : List Int} (ha : Byt a) (hb : Byt b) : Byt (a ++ b) := fun x hx => (List.mem_append.1 hx).elim (ha x) (hb x)
theorem Byt.cons {x : Int} {b : List Int} (h0 : 0 ≤ x) (h1 : x < 256) (hb : Byt b) : Byt (x :: b) := fun y hy => by
  rcases List.mem_cons.1 hy with rfl | hy
  · exact ⟨h0, h1⟩
  · exact hb y hy
theorem Byt.take {a : List Int} (h : Byt a) (n : Nat) : Byt (a.take n) := fun x hx => h x (List.mem_of_mem_take hx)
theorem Byt.drop {a : List Int} (h : Byt a) (n : Nat) : Byt (a.drop n) := fun x hx => h x (List.mem_of_mem_drop hx)
theorem Byt.zeros (n : Nat) : Byt (List.replicate n 0) := fun x hx => by
  rw [List.eq_of_mem_replicate hx]
  omega
theorem Byt.four (x : Int) : Byt (fourB x) := by
  unfold fourB
  exact Byt.cons (by omega) (by omega) (Byt.cons (by omega) (by omega) (Byt.cons (by omega) (by omega) (Byt.cons (by omega) (by omega) Byt.nil)))
theorem Byt.slot (gen area : Int) : Byt (slotB gen area) := by
  unfold slotB
  exact ((((Byt.cons (by omega) (by omega) Byt.nil).append (Byt.four gen)).append (Byt.cons (by omega) (by omega) Byt.nil)).append (Byt.zeros 6)).append (Byt.four gen)
theorem Byt.get {a : List Int} (h : Byt a) (i : Nat) : 0 ≤ a.getD i 0 ∧ a.getD i 0 < 256 := by
  rw [List.getD_eq_getElem?_getD]
  by_cases hi : i < a.length
  · rw [List.getElem?_eq_getElem hi]
    exact h _ (List.getElem_mem hi)
  · rw [List.getElem?_eq_none (by omega)]
    simp
theorem putAll_byt (l : List (Nat × Int)) : ∀ (b : List Int), Byt b → (∀ p ∈ l, 0 ≤ p.2 ∧ p.2 < 256) → Byt (putAll b l) := by
  induction l with
  | nil => intro b hb _; exact hb
  | cons p l ih =>
    intro b hb hl
    refine ih (b.set p.1 p.2) (fun x hx => ?_) (fun q hq => hl q (List.mem_cons_of_mem _ hq))
    rcases List.mem_or_eq_of_mem_set hx with hx | rfl
    · exact hb x hx
    · exact hl p List.mem_cons_self
structure ByD (d : Dm) : Prop where
  b : Byt d.b
  q : ∀ w ∈ d.q, Byt w.2
theorem pend_byt {d : Dm} (h : ByD d) : ∀ p ∈ pend d.q, 0 ≤ p.2 ∧ p.2 < 256 := by
  intro p hp
  unfold pend at hp
  rw [List.mem_flatMap] at hp
  obtain ⟨w, hw, hp⟩ := hp
  unfold pendOf at hp
  rw [List.mem_map] at hp
  obtain ⟨c, hc, rfl⟩ := hp
  exact h.q w hw _ (List.fst_mem_of_mem_zipIdx hc)
theorem ByD.now {d : Dm} (h : ByD d) (ho : d.Ok) : Byt d.now := by
  rw [Dm.now_eq ho]
  exact putAll_byt _ _ h.b (pend_byt h)
theorem ByD.read {d : Dm} (h : ByD d) (ho : d.Ok) (p n : Nat) : Byt (d.read p n) := ((h.now ho).drop p).take n
theorem ByD.write {d : Dm} (h : ByD d) (p : Int) {l : List Int} (hl : Byt l) : ByD (d.write p l) :=
  ⟨h.b, fun w hw => by
    rcases List.mem_append.1 hw with hw | hw
    · exact h.q w hw
    · rw [List.mem_singleton.1 hw]
      exact hl⟩
theorem ByD.flush {d : Dm} (h : ByD d) (ho : d.Ok) : ByD d.flush := ⟨h.now ho, fun w hw => by simp [Dm.flush] at hw⟩
theorem ByD.settle {d : Dm} (h : ByD d) (last : Int) : ByD (d.settle last) :=
  ⟨putAll_byt _ _ h.b (fun p hp => pend_byt h p (List.mem_of_mem_take hp)), fun w hw => by simp [Dm.settle] at hw⟩
theorem ByD.new (n : Nat) : ByD (Dm.new n) := ⟨Byt.zeros n, fun w hw => by simp [Dm.new] at hw⟩
theorem ok_format {d : Dm} (h : d.Ok) : d.format.Ok := by
  have h1 : (d.write 0 (List.replicate d.b.length 0)).Ok := Dm.ok_write h ⟨by omega, by omega, by rw [List.length_replicate]; omega⟩
  exact Dm.ok_flush (Dm.ok_write h1 ⟨by omega, by omega, by rw [slotB_len]; have := h.lo; show _ ≤ (d.b.length : Int); omega⟩)
theorem ByD.format {d : Dm} (h : ByD d) (ho : d.Ok) : ByD d.format := by
  have h1 : (d.write 0 (List.replicate d.b.length 0)).Ok := Dm.ok_write ho ⟨by omega, by omega, by rw [List.length_replicate]; omega⟩
  exact ((h.write 0 (Byt.zeros _)).write 16 (Byt.slot 1 0)).flush (Dm.ok_write h1 ⟨by omega, by omega, by rw [slotB_len]; have := ho.lo; show _ ≤ (d.b.length : Int); omega⟩)
theorem read_length {d : Dm} (ho : d.Ok) {p n : Nat} (h : p + n ≤ d.b.length) : (d.read p n).length = n := by
  unfold Dm.read
  rw [List.length_take, List.length_drop, Dm.now_length ho]
  omega
/-- What slots tell. -/
theorem genB_range {s : List Int} (h : Byt s) : 0 ≤ genB s ∧ genB s < 4294967296 := by
  have h1 := h.get 1
  have h2 := h.get 2
  have h3 := h.get 3
  have h4 := h.get 4
  unfold genB
  omega
theorem told_range {s : List Int} (h : Byt s) (i : Nat) : (0 ≤ (toldR s i).1 ∧ (toldR s i).1 < 4294967296) ∧ (toldR s i).2 ≤ 1 := by
  have h1 := genB_range h
  have h5 := h.get 5
  unfold toldR
  by_cases hc : genB s ≠ 0 ∧ genB s % 2 = i ∧ s.getD 5 0 < 2 ∧ slotB (genB s) (s.getD 5 0) = s
  · rw [if_pos hc]
    exact ⟨h1, by show (s.getD 5 0).toNat ≤ 1; omega⟩
  · rw [if_neg hc]
    exact ⟨⟨by simp, by simp⟩, by simp⟩
/-- The generation and the area that a disk's slots tell. -/
def slotsG (d : Dm) : Int × Nat := if (toldR (d.read 0 16) 0).1 < (toldR (d.read 16 16) 1).1 then toldR (d.read 16 16) 1 else toldR (d.read 0 16) 0
theorem slots_range {d : Dm} (h : ByD d) (ho : d.Ok) : (0 ≤ (slotsG d).1 ∧ (slotsG d).1 < 4294967296) ∧ (slotsG d).2 ≤ 1 := by
  unfold slotsG
  by_cases hc : (toldR (d.read 0 16) 0).1 < (toldR (d.read 16 16) 1).1
  · rw [if_pos hc]; exact told_range (h.read ho _ _) _
  · rw [if_neg hc]; exact told_range (h.read ho _ _) _
/-- An area's bytes. -/
def areaB (d : Dm) (a : Nat) : List Int := d.read (plc d a 0) (Sz d)
theorem plc_fits {d : Dm} (ho : d.Ok) {a : Nat} (ha : a ≤ 1) {f : Nat} (hf : f ≤ Sz d) : plc d a f + (Sz d - f) ≤ d.b.length := by
  have h1 : a * Sz d ≤ 1 * Sz d := Nat.mul_le_mul_right _ ha
  have h2 : 2 * Sz d + 32 ≤ d.b.length := by unfold Sz; have := ho.lo; omega
  unfold plc
  omega
theorem area_len {d : Dm} (ho : d.Ok) {a : Nat} (ha : a ≤ 1) : (areaB d a).length = Sz d := by
  have := plc_fits ho ha (f := 0) (by omega)
  exact read_length ho (by omega)
end Go.Proofs.Ytmbemlpmfklddaa.Own
