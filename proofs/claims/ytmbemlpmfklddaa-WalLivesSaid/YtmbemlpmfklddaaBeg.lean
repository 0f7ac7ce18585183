/- A crash, on lists: what lasts of writes that lie side by side; what is read behind it. What stands on a disk while a log lives: the slot and the area that it goes by, the others, what waits. A log's life, on lists: what holds of it and of its disk behind each call. What is opened behind a crash. -/
import Derived.Test.YtmbemlpmfklddaaLog9
import Derived.Test.YtmbemlpmfklddaaJnf
namespace Go.Proofs.Ytmbemlpmfklddaa.Own
open Go.RowKit
/-! ### Writes side by side are one -/
theorem pendOf_append (p : Nat) (a b : List Int) : pendOf ((p : Int), a ++ b) = pendOf ((p : Int), a) ++ pendOf (((p + a.length : Nat) : Int), b) := by
  unfold pendOf
  simp only [Int.toNat_natCast]
  rw [List.zipIdx_append, List.map_append]
  congr 1
  rw [List.zipIdx_eq_map_add, List.map_map, Nat.zero_add]
  apply List.map_congr_left
  intro c _
  simp only [Function.comp]
  rw [Nat.add_assoc, Nat.add_comm a.length]
theorem pendOf_nil (p : Int) : pendOf (p, []) = [] := rfl
theorem zipIdx_take : ∀ (l : List Int) (k n : Nat), (l.zipIdx n).take k = (l.take k).zipIdx n
  | [], k, n => by simp
  | x :: l, 0, n => by simp
  | x :: l, k + 1, n => by
    rw [List.zipIdx_cons, List.take_succ_cons, List.take_succ_cons, List.zipIdx_cons, zipIdx_take l k (n + 1)]
theorem pendOf_take (p : Nat) (a : List Int) (k : Nat) : (pendOf ((p : Int), a)).take k = pendOf ((p : Int), a.take k) := by
  unfold pendOf
  rw [← List.map_take]
  simp only
  rw [zipIdx_take]
/-- What waits lies side by side: one write of these bytes. -/
structure Wait (d : Dm) (p : Nat) (l : List Int) : Prop where
  eq : pend d.q = pendOf ((p : Int), l)
  fit : p + l.length ≤ d.b.length
section
variable {d : Dm} {p : Nat} {l : List Int}
theorem Wait.settle (h : Wait d p l) (last : Int) : (d.settle last).b = splice d.b p (l.take last.toNat) := by
  have hf := h.fit
  have hl : (l.take last.toNat).length ≤ l.length := by rw [List.length_take]; omega
  unfold Dm.settle
  simp only
  rw [h.eq, pendOf_take, putAll_pendOf (by simp only [Int.toNat_natCast]; omega)]
  simp
theorem Wait.now (h : Wait d p l) (ho : d.Ok) : d.now = splice d.b p l := by
  have hf := h.fit
  rw [Dm.now_eq ho, h.eq, putAll_pendOf (by simp only [Int.toNat_natCast]; omega)]
  simp
theorem Wait.none (h : d.q = []) : Wait d 0 [] := ⟨by rw [h]; rfl, by simp⟩
theorem Wait.one (h : d.q = []) (p : Nat) (l : List Int) (hf : p + l.length ≤ d.b.length) : Wait (d.write p l) p l := by
  refine ⟨?_, hf⟩
  simp [Dm.write, h, pend]
theorem Wait.more (h : Wait d p l) (t : List Int) (q : Nat) (hq : q = p + l.length) (hf : q + t.length ≤ d.b.length) : Wait (d.write q t) p (l ++ t) := by
  subst hq
  refine ⟨?_, by rw [List.length_append]; show _ ≤ d.b.length; omega⟩
  rw [pendOf_append, ← h.eq]
  simp [Dm.write, pend]
end
theorem splice_nil (b : List Int) (p : Nat) : splice b p [] = b := by
  unfold splice
  simp
theorem splice_fill (a t : List Int) (n : Nat) : splice (a ++ List.replicate n 0) a.length t = a ++ t ++ List.replicate (n - t.length) 0 := by
  have := splice_tail a (List.replicate n 0) 0 t
  rw [Nat.add_zero] at this
  rw [this, splice_zero, List.drop_replicate, List.append_assoc]
/-! ### What is read of an area -/
/-- Just these records are read. -/
def Good (a : List Int) (A : List Rec) : Prop := ∃ t, a = framesOf A ++ t ∧ readR t = ([], 0, 0) ∧ ∀ r ∈ A, okR r
theorem Good.read {a : List Int} {A : List Rec} (h : Good a A) : readR a = (A, (framesOf A).length, 0) := by
  obtain ⟨t, rfl, ht, hA⟩ := h
  have := read_frames A hA t
  rw [ht] at this
  simpa [framesOf] using this
theorem Good.len {a : List Int} {A : List Rec} (h : Good a A) : (framesOf A).length ≤ a.length := by
  obtain ⟨t, rfl, _, _⟩ := h
  rw [List.length_append]
  omega
theorem Good.full {A : List Rec} (hA : ∀ r ∈ A, okR r) (k : Nat) : Good (framesOf A ++ List.replicate k 0) A := ⟨_, rfl, zero_stop k, hA⟩
theorem zero_head (t : List Int) : readR (0 :: t) = ([], 0, 0) := by
  have hn : nextR (0 :: t) = ((0, []), 0, 0) := by
    unfold nextR
    rw [if_pos]
    intro h
    have := h.2.1
    simp at this
  rw [readR_stop (by rw [hn]), hn]
theorem Good.splice {a : List Int} {A : List Rec} (h : Good a A) (n k : Nat) (hn : (framesOf A).length + n ≤ a.length) : Good (Own.splice a (framesOf A).length ((List.replicate n 0).take k)) A := by
  obtain ⟨t, rfl, ht, hA⟩ := h
  rw [List.length_append] at hn
  have := splice_tail (framesOf A) t 0 ((List.replicate n 0).take k)
  rw [Nat.add_zero] at this
  refine ⟨Own.splice t 0 ((List.replicate n 0).take k), this, ?_, hA⟩
  rw [splice_zero, List.take_replicate, List.length_replicate]
  match hm : min k n with
  | 0 => simpa using ht
  | m + 1 =>
    rw [List.replicate_succ, List.cons_append]
    exact zero_head _
/-- Behind the opening, and a crash: the same once more. -/
theorem again {d : Dm} (ho : d.Ok) (hq : d.q = []) {g : Int} {a : Nat} {A : List Rec} (ha : a ≤ 1) (hs : slotsG d = (g, a)) (hg : Good (areaB d a) A) (last : Int) :
    slotsG ((d.write (plc d a (framesOf A).length) (List.replicate (Sz d - (framesOf A).length) 0)).settle last) = (g, a) ∧
      Good (areaB ((d.write (plc d a (framesOf A).length) (List.replicate (Sz d - (framesOf A).length) 0)).settle last) a) A := by
  have hz := size_ok ho
  have hl := hg.len
  rw [area_len ho ha] at hl
  have hnow : d.now = d.b := by unfold Dm.now; rw [hq]; rfl
  have hw := Wait.one hq (plc d a (framesOf A).length) (List.replicate (Sz d - (framesOf A).length) 0) (by rw [List.length_replicate]; exact plc_fits ho ha hl)
  have hb := hw.settle last
  obtain ⟨s0, s1, a0, a1, r, hy⟩ := lay_of d.b (Sz d) hz
  have hv : View d s0 s1 a0 a1 r (Sz d) := ⟨ho, rfl, by rw [hnow]; exact hy⟩
  have ht : ((List.replicate (Sz d - (framesOf A).length) (0 : Int)).take last.toNat).length ≤ Sz d - (framesOf A).length := by
    rw [List.length_take, List.length_replicate]
    omega
  have hok : ((d.write (plc d a (framesOf A).length) (List.replicate (Sz d - (framesOf A).length) 0)).settle last).Ok := Dm.ok_settle (Dm.ok_write ho ⟨by omega, by omega, by rw [List.length_replicate]; have := plc_fits ho ha hl; omega⟩) last
  have hn2 : ((d.write (plc d a (framesOf A).length) (List.replicate (Sz d - (framesOf A).length) 0)).settle last).now = splice d.b (plc d a (framesOf A).length) ((List.replicate (Sz d - (framesOf A).length) 0).take last.toNat) := by
    exact hb
  have hz2 : Sz ((d.write (plc d a (framesOf A).length) (List.replicate (Sz d - (framesOf A).length) 0)).settle last) = Sz d := by
    unfold Sz
    rw [settle_len]
    rfl
  match a, ha with
  | 0, _ =>
    have hv2 : View ((d.write (plc d 0 (framesOf A).length) (List.replicate (Sz d - (framesOf A).length) 0)).settle last) s0 s1 (splice a0 (framesOf A).length ((List.replicate (Sz d - (framesOf A).length) 0).take last.toNat)) a1 r (Sz d) := by
      refine ⟨hok, hz2, ?_⟩
      rw [hn2]
      unfold plc
      rw [show 32 + 0 * Sz d + (framesOf A).length = 32 + (framesOf A).length by omega]
      exact hy.area0 _ _ (by omega)
    rw [hv.areaB0] at hg
    rw [hv.slots] at hs
    rw [hv2.slots, hv2.areaB0]
    exact ⟨hs, hg.splice _ _ (by rw [hy.m0]; omega)⟩
  | 1, _ =>
    have hv2 : View ((d.write (plc d 1 (framesOf A).length) (List.replicate (Sz d - (framesOf A).length) 0)).settle last) s0 s1 a0 (splice a1 (framesOf A).length ((List.replicate (Sz d - (framesOf A).length) 0).take last.toNat)) r (Sz d) := by
      refine ⟨hok, hz2, ?_⟩
      rw [hn2]
      unfold plc
      rw [show 32 + 1 * Sz d + (framesOf A).length = 32 + Sz d + (framesOf A).length by omega]
      exact hy.area1 _ _ (by omega)
    rw [hv.areaB1] at hg
    rw [hv.slots] at hs
    rw [hv2.slots, hv2.areaB1]
    exact ⟨hs, hg.splice _ _ (by rw [hy.m1]; omega)⟩
end Go.Proofs.Ytmbemlpmfklddaa.Own
namespace Go.Proofs.Ytmbemlpmfklddaa.Own
open Go.RowKit
/-! ### Two slots and two areas: the ones that count, and the others -/
/-- sc, ac: of the slot gi and the area ai; so, ao: of the others. -/
abbrev Img (b sc so ac ao r : List Int) (gi ai z : Nat) : Prop := Lay b (if gi = 0 then sc else so) (if gi = 0 then so else sc) (if ai = 0 then ac else ao) (if ai = 0 then ao else ac) r z
theorem Lay.slot0p {b s0 s1 a0 a1 r : List Int} {z : Nat} (h : Lay b s0 s1 a0 a1 r z) (l : List Int) (hl : l.length ≤ 16) : Lay (splice b 0 l) (splice s0 0 l) s1 a0 a1 r z := by
  have h0 := h.l0
  refine ⟨?_, by rw [splice_length (by omega)]; exact h0, h.l1, h.m0, h.m1⟩
  rw [h.eq, splice_head _ _ _ _ (by omega)]
theorem Lay.slot1p {b s0 s1 a0 a1 r : List Int} {z : Nat} (h : Lay b s0 s1 a0 a1 r z) (l : List Int) (hl : l.length ≤ 16) : Lay (splice b 16 l) s0 (splice s1 0 l) a0 a1 r z := by
  have h0 := h.l0
  have h1 := h.l1
  refine ⟨?_, h.l0, by rw [splice_length (by omega)]; exact h1, h.m0, h.m1⟩
  rw [h.eq, splice_at _ _ _ 0 _ (by omega), splice_head _ _ _ _ (by omega)]
theorem le_one {i : Nat} (h : i ≤ 1) : i = 0 ∨ i = 1 := by omega
section
variable {b sc so ac ao r l : List Int} {gi ai z p : Nat}
theorem Img.cur (h : Img b sc so ac ao r gi ai z) (ha : ai ≤ 1) (hl : p + l.length ≤ z) : Img (splice b (32 + ai * z + p) l) sc so (splice ac p l) ao r gi ai z := by
  rcases le_one ha with rfl | rfl
  · have := Lay.area0 h p l hl
    rw [show 32 + 0 * z + p = 32 + p by omega]
    exact this
  · have := Lay.area1 h p l hl
    rw [show 32 + 1 * z + p = 32 + z + p by omega]
    exact this
theorem Img.oth (h : Img b sc so ac ao r gi ai z) (ha : ai ≤ 1) (hl : p + l.length ≤ z) : Img (splice b (32 + (1 - ai) * z + p) l) sc so ac (splice ao p l) r gi ai z := by
  rcases le_one ha with rfl | rfl
  · have := Lay.area1 h p l hl
    rw [show 32 + (1 - 0) * z + p = 32 + z + p by omega]
    exact this
  · have := Lay.area0 h p l hl
    rw [show 32 + (1 - 1) * z + p = 32 + p by omega]
    exact this
theorem Img.slot (h : Img b sc so ac ao r gi ai z) (hg : gi ≤ 1) (hl : l.length ≤ 16) : Img (splice b ((1 - gi) * 16) l) sc (splice so 0 l) ac ao r gi ai z := by
  rcases le_one hg with rfl | rfl
  · exact Lay.slot1p h l hl
  · exact Lay.slot0p h l hl
theorem Img.swap (h : Img b sc so ac ao r gi ai z) (hg : gi ≤ 1) (ha : ai ≤ 1) : Img b so sc ao ac r (1 - gi) (1 - ai) z := by
  rcases le_one hg with rfl | rfl <;> rcases le_one ha with rfl | rfl <;> exact h
theorem Img.lens (h : Img b sc so ac ao r gi ai z) (hg : gi ≤ 1) (ha : ai ≤ 1) : sc.length = 16 ∧ so.length = 16 ∧ ac.length = z ∧ ao.length = z := by
  rcases le_one hg with rfl | rfl <;> rcases le_one ha with rfl | rfl
  · exact ⟨h.l0, h.l1, h.m0, h.m1⟩
  · exact ⟨h.l0, h.l1, h.m1, h.m0⟩
  · exact ⟨h.l1, h.l0, h.m0, h.m1⟩
  · exact ⟨h.l1, h.l0, h.m1, h.m0⟩
theorem Img.long (h : Img b sc so ac ao r gi ai z) : 2 * z + 32 ≤ b.length := by
  have := h.eq
  have h0 := h.l0
  have h1 := h.l1
  have h2 := h.m0
  have h3 := h.m1
  rw [this, List.length_append, List.length_append, List.length_append, List.length_append, h0, h1, h2, h3]
  omega
end
section
variable {d : Dm} {sc so ac ao r : List Int} {gi ai z : Nat}
theorem img_slots (ho : d.Ok) (hz : Sz d = z) (h : Img d.now sc so ac ao r gi ai z) (hg : gi ≤ 1) {g g' : Int} {a a' : Nat} (h1 : toldR sc gi = (g, a)) (h2 : toldR so (1 - gi) = (g', a')) :
    (g' < g → slotsG d = (g, a)) ∧ (g < g' → slotsG d = (g', a')) := by
  have hv : View d _ _ _ _ r z := ⟨ho, hz, h⟩
  rw [hv.slots]
  rcases le_one hg with rfl | rfl
  · simp only [if_true, Nat.sub_zero] at h1 h2 ⊢
    rw [h1, h2]
    exact ⟨fun hlt => if_neg (by simp only; omega), fun hlt => if_pos hlt⟩
  · simp only [Nat.one_ne_zero, if_false, Nat.sub_self] at h1 h2 ⊢
    rw [h1, h2]
    exact ⟨fun hlt => if_pos hlt, fun hlt => if_neg (by simp only; omega)⟩
theorem img_area (ho : d.Ok) (hz : Sz d = z) (h : Img d.now sc so ac ao r gi ai z) (ha : ai ≤ 1) : areaB d ai = ac ∧ areaB d (1 - ai) = ao := by
  have hv : View d _ _ _ _ r z := ⟨ho, hz, h⟩
  rcases le_one ha with rfl | rfl
  · exact ⟨hv.areaB0, hv.areaB1⟩
  · exact ⟨hv.areaB1, hv.areaB0⟩
end
/-- A slot of an elder generation, or none. -/
def Old (so : List Int) (gen : Int) : Prop := (gen = 1 ∧ so = List.replicate 16 0) ∨ (2 ≤ gen ∧ ∃ a : Nat, a ≤ 1 ∧ so = slotB (gen - 1) a)
theorem Old.told {so : List Int} {gen : Int} {i : Nat} (h : Old so gen) (hg : gen < 4294967296) (hi : (gen - 1) % 2 = i) : ∃ g' a', toldR so i = (g', a') ∧ g' < gen := by
  rcases h with ⟨rfl, rfl⟩ | ⟨h2, a, ha, rfl⟩
  · exact ⟨0, 0, told_zeros i, by omega⟩
  · exact ⟨gen - 1, a, told_slot (gen - 1) a i (by omega) (by omega) hi ha, by omega⟩
theorem mix_get (a b : List Int) (k j : Nat) (ha : a.length = 16) (hk : k ≤ 16) : (splice b 0 (a.take k)).getD j 0 = if j < k then a.getD j 0 else b.getD j 0 := by
  have hl : (a.take k).length = k := by rw [List.length_take]; omega
  rw [splice_zero, hl]
  simp only [List.getD_eq_getElem?_getD]
  by_cases h : j < k
  · rw [if_pos h, List.getElem?_append_left (by omega), List.getElem?_take_of_lt h]
  · rw [if_neg h, List.getElem?_append_right (by omega), hl, List.getElem?_drop]
    congr 3
    omega
theorem genB_slot (gen area : Int) (h0 : 0 ≤ gen) (h1 : gen < 4294967296) : genB (slotB gen area) = gen := by
  unfold genB slotB fourB
  simp only [List.cons_append, List.nil_append, List.getD_cons_succ, List.getD_cons_zero]
  omega
theorem slot_tail (gen area : Int) : (slotB gen area).getD 12 0 = gen / 16777216 % 256 ∧ (slotB gen area).getD 13 0 = gen / 65536 % 256 ∧ (slotB gen area).getD 14 0 = gen / 256 % 256 ∧ (slotB gen area).getD 15 0 = gen % 256 := by
  unfold slotB fourB
  simp [List.replicate]
theorem slot_head (gen area : Int) : (slotB gen area).getD 1 0 = gen / 16777216 % 256 ∧ (slotB gen area).getD 2 0 = gen / 65536 % 256 ∧ (slotB gen area).getD 3 0 = gen / 256 % 256 ∧ (slotB gen area).getD 4 0 = gen % 256 := by
  unfold slotB fourB
  simp
theorem Old.tail {so : List Int} {gen : Int} (h : Old so gen) : so.length = 16 ∧ Byt so ∧ so.getD 12 0 = (gen - 1) / 16777216 % 256 ∧ so.getD 13 0 = (gen - 1) / 65536 % 256 ∧ so.getD 14 0 = (gen - 1) / 256 % 256 ∧ so.getD 15 0 = (gen - 1) % 256 := by
  rcases h with ⟨rfl, rfl⟩ | ⟨_, a, _, rfl⟩
  · exact ⟨by simp, Byt.zeros 16, by decide, by decide, by decide, by decide⟩
  · exact ⟨slotB_len _ _, Byt.slot _ _, slot_tail _ _⟩
theorem ar1 (gen : Int) (h : (gen + 1) % 256 = (gen - 1) % 256) : False := by omega
theorem ar2 (n : Int) (h0 : 0 ≤ n) (h1 : n < 4294967296) : n / 16777216 % 256 * 16777216 + n / 65536 % 256 * 65536 + n / 256 % 256 * 256 + n % 256 = n := by omega
/-- A slot of which just the first bytes were written: what it tells is elder, or all of it was written. -/
theorem torn_slot {so : List Int} {gen : Int} {na : Nat} (i : Nat) (h : Old so gen) (h1 : 1 ≤ gen) (hg : gen < 4294967295) (k : Nat) :
    ((slotB (gen + 1) na).take k = slotB (gen + 1) na) ∨ ∃ g' a', toldR (splice so 0 ((slotB (gen + 1) na).take k)) i = (g', a') ∧ g' < gen := by
  have hN := slotB_len (gen + 1) (na : Int)
  by_cases hk : 16 ≤ k
  · exact .inl (List.take_of_length_le (by omega))
  · refine .inr ?_
    obtain ⟨hl, hb, t0, t1, t2, t3⟩ := h.tail
    obtain ⟨X, hX⟩ : ∃ X, X = splice so 0 ((slotB (gen + 1) na).take k) := ⟨_, rfl⟩
    have hget : ∀ j : Nat, X.getD j 0 = if j < k then (slotB (gen + 1) (na : Int)).getD j 0 else so.getD j 0 := fun j => by rw [hX]; exact mix_get _ _ k j hN (by omega)
    have hbX : Byt X := by
      rw [hX, splice_zero]
      exact ((Byt.slot _ _).take k).append (hb.drop _)
    rw [← hX]
    unfold toldR
    by_cases hc : genB X ≠ 0 ∧ genB X % 2 = i ∧ X.getD 5 0 < 2 ∧ slotB (genB X) (X.getD 5 0) = X
    · rw [if_pos hc]
      refine ⟨_, _, rfl, ?_⟩
      show genB X < gen
      obtain ⟨c0, _, _, ce⟩ := hc
      obtain ⟨G, hG⟩ : ∃ G, G = genB X := ⟨_, rfl⟩
      have hr := genB_range hbX
      obtain ⟨e0, e1, e2, e3⟩ := slot_tail G (X.getD 5 0)
      rw [← hG] at ce c0 hr ⊢
      rw [ce] at e0 e1 e2 e3
      have g3 := hget 15
      rw [if_neg (by omega)] at g3
      by_cases hk5 : 5 ≤ k
      · have g1 := hget 1
        have g2 := hget 2
        have g4 := hget 3
        have g5 := hget 4
        rw [if_pos (by omega)] at g1 g2 g4 g5
        obtain ⟨f0, f1, f2, f3⟩ := slot_head (gen + 1) (na : Int)
        have hGe : G = gen + 1 := by
          rw [hG]
          unfold genB
          rw [g1, g2, g4, g5, f0, f1, f2, f3]
          exact ar2 _ (by omega) (by omega)
        rw [hGe] at e3
        exact (ar1 gen (e3.symm.trans (g3.trans t3))).elim
      · have g0 := hget 12
        have g1 := hget 13
        have g2 := hget 14
        rw [if_neg (by omega)] at g0 g1 g2
        have hGe : G = gen - 1 := by
          have h8 := ar2 G hr.1 hr.2
          have h9 := ar2 (gen - 1) (by omega) (by omega)
          rw [← e0, ← e1, ← e2, ← e3, g0, g1, g2, g3, t0, t1, t2, t3] at h8
          exact h8.symm.trans h9
        rw [hGe]
        exact Int.sub_lt_self gen (by decide)
    · rw [if_neg hc]
      exact ⟨0, 0, rfl, by omega⟩
end Go.Proofs.Ytmbemlpmfklddaa.Own
namespace Go.Proofs.Ytmbemlpmfklddaa.Own
open Go.RowKit
/-- A checkpoint's parts, then records. -/
def Fr (P R : List (List Int)) : List Rec := recsOf 1 P ++ recsOf 2 R
def Fb (P R : List (List Int)) : List Int := framesOf (Fr P R)
abbrev Zs (n : Nat) : List Int := List.replicate n 0
theorem Fr_snoc (P R : List (List Int)) (b : List Int) : Fr P (R ++ [b]) = Fr P R ++ [(2, b)] := by
  unfold Fr recsOf
  rw [List.map_append, List.append_assoc]
  rfl
theorem Fb_snoc (P R : List (List Int)) (b : List Int) : Fb P (R ++ [b]) = Fb P R ++ frameR (2, b) := by
  unfold Fb
  rw [Fr_snoc, framesOf_append, framesOf_one]
theorem Fb_nil (P : List (List Int)) : Fb P [] = framesOf (recsOf 1 P) := by
  unfold Fb Fr recsOf
  simp
theorem Fr_okR {P R : List (List Int)} (hP : ∀ p ∈ P, p.length ≤ 1000) (hR : ∀ p ∈ R, p.length ≤ 1800) : ∀ r ∈ Fr P R, okR r := by
  intro r hr
  unfold Fr recsOf at hr
  rcases List.mem_append.1 hr with hr | hr
  · obtain ⟨p, hp, rfl⟩ := List.mem_map.1 hr
    exact ⟨(by omega : (1 : Int) ≤ 1), (by omega : (1 : Int) ≤ 255), Nat.le_trans (hP p hp) (by omega)⟩
  · obtain ⟨p, hp, rfl⟩ := List.mem_map.1 hr
    exact ⟨(by omega : (1 : Int) ≤ 2), (by omega : (2 : Int) ≤ 255), Nat.le_trans (hR p hp) (by omega)⟩
/-- The disk of a log: fs bytes of its area are sure. -/
def DImg (x : Lg) (d : Dm) (pb : List Int) (P R : List (List Int)) (fs : Nat) : Prop :=
  ∃ (gi : Nat) (so ao r : List Int) (p : Nat) (l : List Int), gi ≤ 1 ∧ x.gen % 2 = gi ∧ Wait d p l ∧
    ((x.stage = 0 ∧ Old so x.gen ∧ ∃ m, m ≤ (Fb P R).length ∧ fs ≤ m ∧ p = 32 + x.area * 1484 + m ∧ l = (Fb P R).drop m ∧ Img d.b (slotB x.gen x.area) so ((Fb P R).take m ++ Zs (1484 - m)) ao r gi x.area 1484) ∨
     ((x.stage ≠ 0 ∧ x.stage ≠ 4) ∧ Old so x.gen ∧ p = 32 + (1 - x.area) * 1484 ∧ l.length ≤ 1484 ∧ (x.stage = 2 → splice ao 0 l = Zs 1484) ∧ (x.stage = 3 → splice ao 0 l = pb ++ Zs (1484 - pb.length)) ∧
        Img d.b (slotB x.gen x.area) so (Fb P R ++ Zs (1484 - (Fb P R).length)) ao r gi x.area 1484) ∨
     (x.stage = 4 ∧ ao = pb ++ Zs (1484 - pb.length) ∧ ((l = [] ∧ so = slotB (x.gen + 1) ((1 - x.area : Nat) : Int)) ∨ (Old so x.gen ∧ p = (1 - gi) * 16 ∧ l = slotB (x.gen + 1) ((1 - x.area : Nat) : Int))) ∧
        Img d.b (slotB x.gen x.area) so (Fb P R ++ Zs (1484 - (Fb P R).length)) ao r gi x.area 1484))
/-- What holds of a log behind i calls: P its checkpoint, R the records behind it, N the parts of the change under way, gone the records before the checkpoint. -/
structure BegI (x : Lg) (d : Dm) (pb : List Int) (P N R : List (List Int)) (gone i : Nat) : Prop where
  ok : d.Ok
  sz : Sz d = 1484
  byt : ByD d
  q : d.q.length ≤ i
  g0 : 1 ≤ x.gen
  g1 : x.gen ≤ i + 1
  area : x.area ≤ 1
  stage : x.stage ≤ 5
  tail : x.tail = (Fb P R).length
  fit : (Fb P R).length ≤ 1484
  all : x.all = gone + R.length
  alli : x.all ≤ i
  s0 : gone ≤ x.sure
  s1 : x.sure ≤ x.all
  s2 : x.stage ≠ 0 → x.sure = x.all
  okP : P.length ≤ 5 ∧ ∀ p ∈ P, p.length ≤ 1000
  okN : N.length ≤ 5 ∧ ∀ p ∈ N, p.length ≤ 1000
  okR : ∀ p ∈ R, p.length ≤ 1800
  bN : ∀ p ∈ N, Byt p
  parts : 1 ≤ x.stage → x.stage ≤ 4 → pb = framesOf (recsOf 1 N) ∧ pb.length ≤ 1484
  img : DImg x d pb P R (Fb P (R.take (x.sure - gone))).length
theorem BegI.start : BegI ⟨1, 0, 0, 0, 0, 0⟩ (Dm.new 3000).format [] [] [] [] 0 0 := by
  have ho : (Dm.new 3000).Ok := Dm.ok_new (by omega) (by omega)
  have hs : Sz (Dm.new 3000) = 1484 := by
    unfold Sz
    rw [show (Dm.new 3000).b.length = 3000 from List.length_replicate]
  obtain ⟨t, h⟩ := View.format ho
  rw [hs] at h
  refine ⟨h.ok, h.sz, (ByD.new 3000).format ho, Nat.le_refl _, by simp, by simp, by simp, by simp, rfl, Nat.zero_le _, rfl, Nat.le_refl _, Nat.le_refl _, Nat.le_refl _, fun h => absurd rfl h, ⟨by simp, by simp⟩, ⟨by simp, by simp⟩, by simp, by simp, fun h => absurd h (by simp), ?_⟩
  refine ⟨1, List.replicate 16 0, List.replicate 1484 0, t, 32, [], by omega, rfl, ⟨rfl, ?_⟩, .inl ⟨rfl, .inl ⟨rfl, rfl⟩, 0, Nat.zero_le _, Nat.le_refl _, rfl, rfl, h.lay⟩⟩
  have := h.ok.lo
  show 32 + 0 ≤ _
  omega
/-- What is read now. -/
theorem BegI.now {x : Lg} {d : Dm} {pb : List Int} {P N R : List (List Int)} {gone i : Nat} (h : BegI x d pb P N R gone i) :
    ∃ (gi : Nat) (so ao r : List Int), gi ≤ 1 ∧ x.gen % 2 = gi ∧ Img d.now (slotB x.gen x.area) so (Fb P R ++ Zs (1484 - (Fb P R).length)) ao r gi x.area 1484 ∧ (x.stage ≠ 4 → Old so x.gen) ∧
      (x.stage = 2 → ao = Zs 1484) ∧ (x.stage = 3 → ao = pb ++ Zs (1484 - pb.length)) ∧ (x.stage = 4 → ao = pb ++ Zs (1484 - pb.length) ∧ so = slotB (x.gen + 1) ((1 - x.area : Nat) : Int)) := by
  obtain ⟨gi, so, ao, r, p, l, hg, hgi, hw, hc⟩ := h.img
  have hn := hw.now h.ok
  have hfit := h.fit
  rcases hc with ⟨hs, hold, m, hm, _, hp, hl, him⟩ | ⟨hs, hold, hp, hl, h2, h3, him⟩ | ⟨hs, hao, hso, him⟩
  · refine ⟨gi, so, ao, r, hg, hgi, ?_, fun _ => hold, fun h => by omega, fun h => by omega, fun h => by omega⟩
    have hll : l.length = (Fb P R).length - m := by rw [hl, List.length_drop]
    have hcur := him.cur h.area (p := m) (l := l) (by omega)
    have hml : ((Fb P R).take m).length = m := by rw [List.length_take]; omega
    have hsp := splice_fill ((Fb P R).take m) l (1484 - m)
    rw [hml] at hsp
    rw [hsp, hl, List.take_append_drop, List.length_drop, ← hl, ← hp] at hcur
    rw [hn, show 1484 - (Fb P R).length = 1484 - m - ((Fb P R).length - m) by omega]
    exact hcur
  · have hoth := him.oth h.area (p := 0) (l := l) (by omega)
    rw [Nat.add_zero, ← hp] at hoth
    refine ⟨gi, so, splice ao 0 l, r, hg, hgi, by rw [hn]; exact hoth, fun _ => hold, h2, h3, fun h => absurd h hs.2⟩
  · rcases hso with ⟨rfl, rfl⟩ | ⟨hold, hp, hl⟩
    · refine ⟨gi, _, ao, r, hg, hgi, by rw [hn, splice_nil]; exact him, fun h => absurd hs h, fun h => by omega, fun h => by omega, fun _ => ⟨hao, rfl⟩⟩
    · have h16 : l.length = 16 := by rw [hl, slotB_len]
      have hsl := him.slot hg (l := l) (by omega)
      have hlens := him.lens hg h.area
      rw [splice_all so l (by omega), ← hp] at hsl
      refine ⟨gi, l, ao, r, hg, hgi, by rw [hn]; exact hsl, fun h => absurd hs h, fun h => by omega, fun h => by omega, fun _ => ⟨hao, hl⟩⟩
theorem flush_b (d : Dm) : d.flush.b = d.now := rfl
/-- A disk behind a flush: nothing waits. -/
theorem wait_flush {d : Dm} (p : Nat) (hp : p ≤ d.flush.b.length) : Wait d.flush p [] := ⟨rfl, by simpa using hp⟩
theorem BegI.more {x : Lg} {d : Dm} {pb : List Int} {P N R : List (List Int)} {gone i : Nat} (h : BegI x d pb P N R gone i) : BegI x d pb P N R gone (i + 1) :=
  { h with q := Nat.le_succ_of_le h.q, g1 := by have := h.g1; push_cast; omega, alli := Nat.le_succ_of_le h.alli }
theorem sure_le {P R : List (List Int)} (n : Nat) : (Fb P (R.take n)).length ≤ (Fb P R).length := by
  have e : Fb P R = Fb P (R.take n) ++ framesOf (recsOf 2 (R.drop n)) := by
    unfold Fb Fr
    rw [← framesOf_append, List.append_assoc]
    congr 2
    unfold recsOf
    rw [← List.map_append, List.take_append_drop]
  rw [e, List.length_append]
  omega
/-- Append. -/
theorem BegI.app {x : Lg} {d : Dm} {pb : List Int} {P N R : List (List Int)} {gone i : Nat} (h : BegI x d pb P N R gone i) (b : List Int) (hb : Byt b) :
    ((appE x d b).2 = 0 ∧ BegI (appL x d b) (appD x d b) pb P N (R ++ [b]) gone (i + 1)) ∨ ((appE x d b).2 ≠ 0 ∧ BegI (appL x d b) (appD x d b) pb P N R gone (i + 1)) := by
  rcases appE_cases x d b with ⟨_, he⟩ | ⟨_, _, he⟩ | ⟨_, _, _, he⟩ | ⟨hlen, hs, hf, he⟩
  · refine .inr ⟨by rw [he]; decide, ?_⟩
    unfold appL appD
    rw [he]
    exact h.more
  · refine .inr ⟨by rw [he]; decide, ?_⟩
    unfold appL appD
    rw [he]
    exact h.more
  · refine .inr ⟨by rw [he]; decide, ?_⟩
    unfold appL appD
    rw [he]
    exact h.more
  · refine .inl ⟨by rw [he], ?_⟩
    have hz := h.sz
    have ht := h.tail
    have hfl : (frameR (2, b)).length = b.length + 9 := frameR_len
    have hsa := size_ok h.ok
    have haz : x.area * 1484 ≤ 1 * 1484 := Nat.mul_le_mul_right _ h.area
    rw [hz] at hf hsa
    have hp : plc d x.area x.tail = 32 + x.area * 1484 + (Fb P R).length := by
      unfold plc
      rw [hz, ht]
    have hF : (Fb P (R ++ [b])).length = (Fb P R).length + (b.length + 9) := by rw [Fb_snoc, List.length_append, hfl]
    unfold appL appD
    rw [he, if_pos rfl, if_pos rfl, hp]
    refine ⟨Dm.ok_write h.ok ⟨by omega, by omega, ?_⟩, hz, h.byt.write _ (Byt.frame _ hb), ?_, h.g0, ?_, h.area, h.stage, ?_, ?_, ?_, ?_, h.s0, ?_, fun h2 => absurd hs h2, h.okP, h.okN, ?_, h.bN, h.parts, ?_⟩
    · rw [hfl]
      omega
    · have := h.q
      simp only [Dm.write, List.length_append, List.length_singleton]
      omega
    · have := h.g1
      push_cast
      omega
    · show x.tail + b.length + 9 = _
      omega
    · omega
    · show x.all + 1 = gone + (R ++ [b]).length
      have := h.all
      rw [List.length_append, List.length_singleton]
      omega
    · show x.all + 1 ≤ i + 1
      have := h.alli
      omega
    · show x.sure ≤ x.all + 1
      have := h.s1
      omega
    · intro r hr
      rcases List.mem_append.1 hr with hr | hr
      · exact h.okR r hr
      · rw [List.mem_singleton.1 hr]
        exact hlen.2
    · obtain ⟨gi, so, ao, r, p, l, hg, hgi, hw, hc⟩ := h.img
      have hsr : x.sure - gone ≤ R.length := by have := h.s1; have := h.all; omega
      rcases hc with ⟨_, hold, m, hm, hfs, hpm, hl, him⟩ | ⟨hs2, _⟩ | ⟨hs4, _⟩
      · have hll : l.length = (Fb P R).length - m := by rw [hl, List.length_drop]
        refine ⟨gi, so, ao, r, p, l ++ frameR (2, b), hg, hgi, hw.more _ _ (by omega) (by rw [hfl]; omega), .inl ⟨hs, hold, m, by omega, ?_, hpm, ?_, ?_⟩⟩
        · show (Fb P ((R ++ [b]).take (x.sure - gone))).length ≤ m
          rw [List.take_append_of_le_length hsr]
          exact hfs
        · rw [Fb_snoc, List.drop_append_of_le_length hm, hl]
        · rw [Fb_snoc, List.take_append_of_le_length hm]
          exact him
      · exact absurd hs hs2.1
      · omega
/-- Sync. -/
theorem BegI.sync {x : Lg} {d : Dm} {pb : List Int} {P N R : List (List Int)} {gone i : Nat} (h : BegI x d pb P N R gone i) : BegI { x with sure := x.all } d.flush pb P N R gone (i + 1) := by
  obtain ⟨gi, so, ao, r, hg, hgi, him, hold, h2, h3, h4⟩ := h.now
  have hlong := him.long
  have haz : x.area * 1484 ≤ 1 * 1484 := Nat.mul_le_mul_right _ h.area
  have hfit := h.fit
  refine ⟨Dm.ok_flush h.ok, (Sz_flush h.ok).trans h.sz, h.byt.flush h.ok, Nat.zero_le _, h.g0, by have := h.g1; push_cast; omega, h.area, h.stage, h.tail, h.fit, h.all, Nat.le_succ_of_le h.alli, ?_, Nat.le_refl _, fun _ => rfl, h.okP, h.okN, h.okR, h.bN, h.parts, ?_⟩
  · show gone ≤ x.all
    have := h.all
    omega
  · by_cases c0 : x.stage = 0
    · refine ⟨gi, so, ao, r, 32 + x.area * 1484 + (Fb P R).length, [], hg, hgi, wait_flush _ (by rw [flush_b]; omega), .inl ⟨c0, hold (by omega), (Fb P R).length, Nat.le_refl _, ?_, rfl, by rw [List.drop_length], ?_⟩⟩
      · exact sure_le _
      · rw [List.take_length]
        exact him
    · by_cases c4 : x.stage = 4
      · obtain ⟨e1, e2⟩ := h4 c4
        exact ⟨gi, so, ao, r, 0, [], hg, hgi, wait_flush _ (by omega), .inr (.inr ⟨c4, e1, .inl ⟨rfl, e2⟩, him⟩)⟩
      · refine ⟨gi, so, ao, r, 32 + (1 - x.area) * 1484, [], hg, hgi, wait_flush _ (by rw [flush_b]; omega), .inr (.inl ⟨⟨c0, c4⟩, hold c4, rfl, Nat.zero_le _, fun c => ?_, fun c => ?_, him⟩)⟩
        · rw [splice_nil]
          exact h2 c
        · rw [splice_nil]
          exact h3 c
/-- Begin. -/
theorem BegI.beg {x : Lg} {d : Dm} {pb : List Int} {P N R : List (List Int)} {gone i : Nat} (h : BegI x d pb P N R gone i) (L : List (List Int)) (hL : L.length ≤ 5 ∧ ∀ p ∈ L, p.length ≤ 1000) (hB : ∀ p ∈ L, Byt p) :
    (begE x d L = 0 ∧ BegI (begL x d L) d (begP x d pb L) P L R gone (i + 1)) ∨ (begE x d L ≠ 0 ∧ BegI (begL x d L) d (begP x d pb L) P N R gone (i + 1)) := by
  by_cases c0 : begE x d L = 0
  · refine .inl ⟨c0, ?_⟩
    unfold begL begP
    rw [if_pos c0, if_pos c0]
    have hs : x.stage = 0 ∧ x.all ≤ x.sure ∧ (framesOf (recsOf 1 L)).length ≤ Sz d := by
      unfold begE at c0
      by_cases c1 : x.stage ≠ 0 ∨ x.sure < x.all
      · rw [if_pos c1] at c0
        exact absurd c0 (by decide)
      · rw [if_neg c1] at c0
        by_cases c2 : Sz d < (framesOf (recsOf 1 L)).length
        · rw [if_pos c2] at c0
          exact absurd c0 (by decide)
        · omega
    obtain ⟨hs0, hsa, hfl⟩ := hs
    have hm := h.more
    rw [h.sz] at hfl
    refine { hm with stage := by simp, s2 := fun _ => by show x.sure = x.all; have := h.s1; omega, okN := hL, bN := hB, parts := fun _ _ => ⟨rfl, hfl⟩, img := ?_ }
    obtain ⟨gi, so, ao, r, p, l, hg, hgi, hw, hc⟩ := h.img
    rcases hc with ⟨_, hold, m, hm2, hfs, hpm, hl, him⟩ | ⟨hs2, _⟩ | ⟨hs4, _⟩
    · have hall := h.all
      have hs1 := h.s1
      rw [List.take_of_length_le (by omega)] at hfs
      have em : m = (Fb P R).length := by omega
      have el : l = [] := by rw [hl, em, List.drop_length]
      rw [em, List.take_length] at him
      have hlong := him.long
      have haz : (1 - x.area) * 1484 ≤ 1 * 1484 := Nat.mul_le_mul_right _ (by omega)
      refine ⟨gi, so, ao, r, 32 + (1 - x.area) * 1484, [], hg, hgi, ⟨?_, ?_⟩, .inr (.inl ⟨⟨by simp, by simp⟩, hold, rfl, Nat.zero_le _, fun c => by simp at c, fun c => by simp at c, him⟩)⟩
      · have := hw.eq
        rw [el] at this
        rw [this]
        rfl
      · show 32 + (1 - x.area) * 1484 + 0 ≤ _
        omega
    · exact absurd hs0 hs2.1
    · omega
  · refine .inr ⟨c0, ?_⟩
    unfold begL begP
    rw [if_neg c0, if_neg c0]
    exact h.more
/-- Step, but for the one that wipes. -/
theorem BegI.step {x : Lg} {d : Dm} {pb : List Int} {P N R : List (List Int)} {gone i : Nat} (h : BegI x d pb P N R gone i) (h4 : x.stage ≠ 4) (hpb : Byt pb) : BegI (stepL x pb) (stepD x d pb) pb P N R gone (i + 1) := by
  obtain ⟨gi, so, ao, r, hg, hgi, him, hold, h2, h3, _⟩ := h.now
  have hlong := him.long
  have hlens := him.lens hg h.area
  have hfit := h.fit
  have ha1 : x.area * 1484 ≤ 1 * 1484 := Nat.mul_le_mul_right _ h.area
  have ha2 : (1 - x.area) * 1484 ≤ 1 * 1484 := Nat.mul_le_mul_right _ (by omega)
  have hz := h.sz
  have hp : plc d (1 - x.area) 0 = 32 + (1 - x.area) * 1484 := by
    unfold plc
    rw [hz, Nat.add_zero]
  have hold' := hold h4
  by_cases c0 : x.stage = 0
  · have e1 : stepL x pb = x := by unfold stepL; rw [if_pos c0]
    have e2 : stepD x d pb = d := by unfold stepD; rw [c0]; rfl
    rw [e1, e2]
    exact h.more
  have e1 : stepL x pb = { x with stage := (x.stage + 1) % 6 } := by unfold stepL; rw [if_neg c0, if_neg h4]
  have hso : (stepD x d pb).Ok ∧ (stepD x d pb).q.length ≤ i + 1 → DImg (stepL x pb) (stepD x d pb) pb P R (Fb P (R.take (x.sure - gone))).length → BegI (stepL x pb) (stepD x d pb) pb P N R gone (i + 1) := by
    intro hok hi
    have hby := h.byt.step (x := x) h.ok hpb
    have hsz := (Sz_step h.ok (x := x) pb).trans h.sz
    rw [e1] at hi ⊢
    exact ⟨hok.1, hsz, hby, hok.2, h.g0, by have := h.g1; push_cast; omega, h.area, by show (x.stage + 1) % 6 ≤ 5; omega, h.tail, h.fit, h.all, Nat.le_succ_of_le h.alli, h.s0, h.s1, fun _ => h.s2 c0, h.okP, h.okN, h.okR, h.bN, fun k1 k2 => h.parts (by omega) (by
      have := h.stage
      have k3 : (x.stage + 1) % 6 ≤ 4 := k2
      have k4 : 1 ≤ (x.stage + 1) % 6 := k1
      omega), hi⟩
  have hfo := Dm.ok_flush h.ok
  have hfl : d.flush.b.length = d.now.length := rfl
  have hst := h.stage
  rcases (show x.stage = 1 ∨ x.stage = 2 ∨ x.stage = 3 ∨ x.stage = 5 by omega) with c | c | c | c
  · have e2 : stepD x d pb = d.flush.write (plc d (1 - x.area) 0) (List.replicate (Sz d) 0) := by unfold stepD; rw [c]; rfl
    have hw : Wait (d.flush.write (plc d (1 - x.area) 0) (List.replicate (Sz d) 0)) (plc d (1 - x.area) 0) (List.replicate (Sz d) 0) := Wait.one rfl _ _ (by rw [List.length_replicate, hp, hz, hfl]; omega)
    refine hso (by rw [e2]; exact ⟨Dm.ok_write hfo ⟨by omega, by omega, by have := hw.fit; exact_mod_cast this⟩, by simp [Dm.write, Dm.flush]⟩) ?_
    rw [e1, e2]
    refine ⟨gi, so, ao, r, _, _, hg, hgi, hw, .inr (.inl ⟨⟨by simp [c], by simp [c]⟩, hold', hp, by rw [List.length_replicate, hz]; omega, fun _ => ?_, fun k => by simp [c] at k, him⟩)⟩
    rw [hz]
    exact splice_all _ _ (by rw [List.length_replicate]; exact hlens.2.2.2.symm)
  · obtain ⟨hpe, hpl⟩ := h.parts (by omega) (by omega)
    have e2 : stepD x d pb = d.flush.write (plc d (1 - x.area) 0) pb := by unfold stepD; rw [c]; rfl
    have hw : Wait (d.flush.write (plc d (1 - x.area) 0) pb) (plc d (1 - x.area) 0) pb := Wait.one rfl _ _ (by rw [hp, hfl]; omega)
    refine hso (by rw [e2]; exact ⟨Dm.ok_write hfo ⟨by omega, by omega, by have := hw.fit; exact_mod_cast this⟩, by simp [Dm.write, Dm.flush]⟩) ?_
    rw [e1, e2]
    refine ⟨gi, so, ao, r, _, _, hg, hgi, hw, .inr (.inl ⟨⟨by simp [c], by simp [c]⟩, hold', hp, hpl, fun k => by simp [c] at k, fun _ => ?_, him⟩)⟩
    rw [h2 c, splice_zero, List.drop_replicate]
  · have hgp : (x.gen + 1) % 2 * 16 = (((1 - gi) * 16 : Nat) : Int) := by omega
    have e2 : stepD x d pb = d.flush.write ((x.gen + 1) % 2 * 16) (slotB (x.gen + 1) ((1 - x.area : Nat) : Int)) := by unfold stepD; rw [c]; rfl
    rw [hgp] at e2
    have hw : Wait (d.flush.write (((1 - gi) * 16 : Nat) : Int) (slotB (x.gen + 1) ((1 - x.area : Nat) : Int))) ((1 - gi) * 16) (slotB (x.gen + 1) ((1 - x.area : Nat) : Int)) := Wait.one rfl _ _ (by rw [slotB_len, hfl]; omega)
    refine hso (by rw [e2]; exact ⟨Dm.ok_write hfo ⟨by omega, by omega, by have := hw.fit; exact_mod_cast this⟩, by simp [Dm.write, Dm.flush]⟩) ?_
    rw [e1, e2]
    exact ⟨gi, so, ao, r, _, _, hg, hgi, hw, .inr (.inr ⟨by simp [c], h3 c, .inr ⟨hold', rfl, rfl⟩, him⟩)⟩
  · have e2 : stepD x d pb = d.flush := by unfold stepD; rw [c]; rfl
    refine hso (by rw [e2]; exact ⟨hfo, Nat.zero_le _⟩) ?_
    rw [e1, e2]
    refine ⟨gi, so, ao, r, 32 + x.area * 1484 + (Fb P R).length, [], hg, hgi, wait_flush _ (by rw [flush_b]; omega), .inl ⟨by simp [c], hold', (Fb P R).length, Nat.le_refl _, sure_le _, rfl, by rw [List.drop_length], ?_⟩⟩
    rw [List.take_length]
    exact him
/-- The step that wipes: the new checkpoint counts. -/
theorem BegI.wipe {x : Lg} {d : Dm} {pb : List Int} {P N R : List (List Int)} {gone i : Nat} (h : BegI x d pb P N R gone i) (h4 : x.stage = 4) (hpb : Byt pb) : BegI (stepL x pb) (stepD x d pb) pb N N [] x.all (i + 1) := by
  obtain ⟨gi, so, ao, r, hg, hgi, him, _, _, _, h5⟩ := h.now
  obtain ⟨hao, hso⟩ := h5 h4
  obtain ⟨hpe, hpl⟩ := h.parts (by omega) (by omega)
  have hlong := him.long
  have hlens := him.lens hg h.area
  have ha1 : x.area * 1484 ≤ 1 * 1484 := Nat.mul_le_mul_right _ h.area
  have hz := h.sz
  have har := h.area
  have hp : plc d x.area 0 = 32 + x.area * 1484 := by
    unfold plc
    rw [hz, Nat.add_zero]
  have hfl : d.flush.b.length = d.now.length := rfl
  have e1 : stepL x pb = ⟨x.gen + 1, 1 - x.area, pb.length, x.all, x.sure, 5⟩ := by unfold stepL; rw [if_neg (by omega), if_pos h4]
  have e2 : stepD x d pb = d.flush.write (plc d x.area 0) (List.replicate (Sz d) 0) := by unfold stepD; rw [h4]; rfl
  have hby := h.byt.step (x := x) h.ok hpb
  have hsz := (Sz_step h.ok (x := x) pb).trans h.sz
  have hw : Wait (d.flush.write (plc d x.area 0) (List.replicate (Sz d) 0)) (plc d x.area 0) (List.replicate (Sz d) 0) := Wait.one rfl _ _ (by rw [List.length_replicate, hp, hz, hfl]; omega)
  have hsw := him.swap hg h.area
  have hF : Fb N [] = pb := by rw [Fb_nil, hpe]
  have hss := h.s2 (by omega)
  rw [e2] at hby hsz
  rw [e1, e2]
  refine ⟨Dm.ok_write (Dm.ok_flush h.ok) ⟨by omega, by omega, by have := hw.fit; exact_mod_cast this⟩, hsz, hby, by simp [Dm.write, Dm.flush], by show 1 ≤ x.gen + 1; have := h.g0; omega, by show x.gen + 1 ≤ _; have := h.g1; push_cast; omega, by show 1 - x.area ≤ 1; omega, by simp, by rw [hF], by rw [hF]; exact hpl, by simp, Nat.le_succ_of_le h.alli, by show x.all ≤ x.sure; omega, by show x.sure ≤ x.all; omega, fun _ => hss, h.okN, h.okN, by simp, h.bN, fun _ k => by simp at k, ?_⟩
  refine ⟨1 - gi, slotB x.gen x.area, Fb P R ++ Zs (1484 - (Fb P R).length), r, _, _, by omega, by show (x.gen + 1) % 2 = _; omega, hw, .inr (.inl ⟨⟨by simp, by simp⟩, .inr ⟨by show 2 ≤ x.gen + 1; have := h.g0; omega, x.area, h.area, ?_⟩, ?_, by rw [List.length_replicate, hz]; omega, fun k => by simp at k, fun k => by simp at k, ?_⟩)⟩
  · show slotB x.gen x.area = slotB (x.gen + 1 - 1) x.area
    rw [Int.add_sub_cancel]
  · show plc d x.area 0 = 32 + (1 - (1 - x.area)) * 1484
    rw [hp]
    congr 2
    omega
  · show Img d.now (slotB (x.gen + 1) ((1 - x.area : Nat) : Int)) (slotB x.gen x.area) (Fb N [] ++ Zs (1484 - (Fb N []).length)) (Fb P R ++ Zs (1484 - (Fb P R).length)) r (1 - gi) (1 - x.area) 1484
    rw [hF, ← hso, ← hao]
    exact hsw
end Go.Proofs.Ytmbemlpmfklddaa.Own
namespace Go.Proofs.Ytmbemlpmfklddaa.Own
open Go.RowKit
theorem split_recs : ∀ (R P R0 : List (List Int)), splitR (recsOf 2 R) P R0 = some (P, R0 ++ R)
  | [], P, R0 => by simp [recsOf, splitR]
  | l :: R, P, R0 => by
    show splitR ((2, l) :: recsOf 2 R) P R0 = _
    rw [splitR, if_neg (fun h => absurd (show (2 : Int) = 1 from h.1) (by decide)), if_pos rfl, split_recs R P (R0 ++ [l])]
    simp
theorem split_Fr : ∀ (L R P : List (List Int)), splitR (recsOf 1 L ++ recsOf 2 R) P [] = some (P ++ L, R)
  | [], R, P => by
    show splitR (recsOf 2 R) P [] = _
    rw [split_recs]
    simp
  | l :: L, R, P => by
    show splitR ((1, l) :: (recsOf 1 L ++ recsOf 2 R)) P [] = _
    rw [splitR, if_pos ⟨rfl, rfl⟩, split_Fr L R (P ++ [l])]
    simp
theorem Fr_take (P R : List (List Int)) (s : Nat) : (Fr P R).take (P.length + s) = Fr P (R.take s) := by
  unfold Fr
  rw [show P.length + s = (recsOf 1 P).length + s by rw [recs_len], List.take_length_add_append]
  unfold recsOf
  rw [List.map_take]
theorem Fr_len (P R : List (List Int)) : (Fr P R).length = P.length + R.length := by
  unfold Fr
  rw [List.length_append, recs_len, recs_len]
theorem good_of_read {a t : List Int} {A : List Rec} (ha : a = framesOf A ++ t) (hA : ∀ r ∈ A, okR r) (hr : readR a = (A, (framesOf A).length, 0)) : Good a A := by
  refine ⟨t, ha, ?_, hA⟩
  have h := read_frames A hA t
  have e : (A.map frameR).flatten = framesOf A := rfl
  rw [e, ← ha, hr] at h
  injection h with h1 h2
  injection h2 with h2 h3
  have e1 : (readR t).1 = [] := (List.append_right_eq_self).1 h1.symm
  have e2 : (readR t).2.1 = 0 := by omega
  exact Prod.ext e1 (Prod.ext e2 h3.symm)
theorem frames_split (L : List Rec) (j : Nat) : framesOf L = framesOf (L.take j) ++ framesOf (L.drop j) := by
  rw [← framesOf_append, List.take_append_drop]
/-- Of an area of which just the first bytes last. -/
theorem torn_area {P R : List (List Int)} (hP : ∀ p ∈ P, p.length ≤ 1000) (hR : ∀ p ∈ R, p.length ≤ 1800) {s m t k : Nat} (hs : s ≤ R.length) (hm : (Fb P (R.take s)).length ≤ m) (hmt : m ≤ t) (ht : t ≤ (Fb P R).length) :
    ∃ j, s ≤ j ∧ j ≤ R.length ∧ Good ((Fb P R).take t ++ Zs k) (Fr P (R.take j)) := by
  have hok := Fr_okR hP hR
  obtain ⟨j, h1, h2, h3, h4⟩ := read_torn (Fr P R) hok t k ht
  have hl := Fr_len P R
  have hj : P.length + s ≤ j := by
    by_cases hc : P.length + s ≤ j
    · exact hc
    · have h5 := h3 (by omega)
      have h6 := framesOf_take_mono (Fr P R) (i := j + 1) (j := P.length + s) (by omega)
      rw [Fr_take] at h6
      unfold Fb at hm
      omega
  obtain ⟨q, rfl⟩ : ∃ q, j = P.length + q := ⟨j - P.length, by omega⟩
  refine ⟨q, by omega, by omega, ?_⟩
  rw [Fr_take] at h2 h4
  refine good_of_read (t := (framesOf ((Fr P R).drop (P.length + q))).take (t - (framesOf (Fr P (R.take q))).length) ++ Zs k) ?_ (Fr_okR hP (fun p hp => hR p (List.mem_of_mem_take hp))) h4
  have e := frames_split (Fr P R) (P.length + q)
  rw [Fr_take] at e
  unfold Fb
  rw [← List.append_assoc]
  congr 1
  rw [e, List.take_append, List.take_of_length_le h2]
theorem BegI.crash {x : Lg} {d : Dm} {pb : List Int} {P N R : List (List Int)} {gone i : Nat} (h : BegI x d pb P N R gone i) (hi : i ≤ 1000) (last : Int) :
    ∃ (g : Int) (a : Nat) (A : List Rec) (P' R' : List (List Int)), slotsG (d.settle last) = (g, a) ∧ 1 ≤ g ∧ a ≤ 1 ∧ Good (areaB (d.settle last) a) A ∧ splitR A [] [] = some (P', R') ∧
      ((x.stage = 4 ∧ g = x.gen + 1 ∧ P' = N ∧ R' = []) ∨ (P' = P ∧ ∃ j, x.sure - gone ≤ j ∧ j ≤ R.length ∧ R' = R.take j)) := by
  obtain ⟨gi, so, ao, r, p, l, hg, hgi, hw, hc⟩ := h.img
  have hok := Dm.ok_settle h.ok last
  have hsz : Sz (d.settle last) = 1484 := by
    have := h.sz
    unfold Sz at this ⊢
    rw [settle_len]
    exact this
  have hnow : (d.settle last).now = splice d.b p (l.take last.toNat) := hw.settle last
  have hg0 := h.g0
  have hg1 := h.g1
  have hfit := h.fit
  have hsr : x.sure - gone ≤ R.length := by have := h.s1; have := h.all; omega
  have t1 : toldR (slotB x.gen x.area) gi = (x.gen, x.area) := told_slot x.gen x.area gi (by omega) (by omega) hgi h.area
  have hokF := Fr_okR h.okP.2 h.okR
  have hfull : Good (Fb P R ++ Zs (1484 - (Fb P R).length)) (Fr P R) := Good.full hokF _
  have hsp : splitR (Fr P R) [] [] = some (P, R) := by
    unfold Fr
    rw [split_Fr]
    rfl
  rcases hc with ⟨hs, hold, m, hm, hfs, hp, hl, him⟩ | ⟨hs, hold, hp, hl, _, _, him⟩ | ⟨hs, hao, hso, him⟩
  · obtain ⟨g', a', t2, hlt⟩ := hold.told (i := 1 - gi) (by omega) (by omega)
    have hll : l.length = (Fb P R).length - m := by rw [hl, List.length_drop]
    have htl : (l.take last.toNat).length ≤ l.length := by rw [List.length_take]; omega
    have hcur := him.cur h.area (p := m) (l := l.take last.toNat) (by omega)
    have hml : ((Fb P R).take m).length = m := by rw [List.length_take]; omega
    have hfi := splice_fill ((Fb P R).take m) (l.take last.toNat) (1484 - m)
    rw [hml] at hfi
    rw [hfi, ← hp, ← hnow] at hcur
    obtain ⟨t, ht1, ht2, ht3⟩ : ∃ t, m ≤ t ∧ t ≤ (Fb P R).length ∧ (Fb P R).take m ++ l.take last.toNat = (Fb P R).take t := by
      by_cases hk : m + last.toNat ≤ (Fb P R).length
      · exact ⟨m + last.toNat, by omega, hk, by rw [hl, List.take_add]⟩
      · refine ⟨(Fb P R).length, hm, Nat.le_refl _, ?_⟩
        have e1 : l.take last.toNat = l := List.take_of_length_le (by omega)
        rw [e1, List.take_length, hl, List.take_append_drop]
    rw [ht3] at hcur
    obtain ⟨j, hj1, hj2, hgd⟩ := torn_area h.okP.2 h.okR hsr hfs ht1 ht2 (k := 1484 - m - (l.take last.toNat).length)
    refine ⟨x.gen, x.area, Fr P (R.take j), P, R.take j, (img_slots hok hsz hcur hg t1 t2).1 hlt, hg0, h.area, ?_, ?_, .inr ⟨rfl, j, hj1, hj2, rfl⟩⟩
    · rw [(img_area hok hsz hcur h.area).1]
      exact hgd
    · unfold Fr
      rw [split_Fr]
      rfl
  · obtain ⟨g', a', t2, hlt⟩ := hold.told (i := 1 - gi) (by omega) (by omega)
    have htl : (l.take last.toNat).length ≤ l.length := by rw [List.length_take]; omega
    have hoth := him.oth h.area (p := 0) (l := l.take last.toNat) (by omega)
    rw [Nat.add_zero, ← hp, ← hnow] at hoth
    refine ⟨x.gen, x.area, Fr P R, P, R, (img_slots hok hsz hoth hg t1 t2).1 hlt, hg0, h.area, ?_, hsp, .inr ⟨rfl, R.length, hsr, Nat.le_refl _, by rw [List.take_length]⟩⟩
    rw [(img_area hok hsz hoth h.area).1]
    exact hfull
  · obtain ⟨hpe, hpl⟩ := h.parts (by omega) (by omega)
    have tn : toldR (slotB (x.gen + 1) ((1 - x.area : Nat) : Int)) (1 - gi) = (x.gen + 1, 1 - x.area) := told_slot (x.gen + 1) (1 - x.area) (1 - gi) (by omega) (by omega) (by omega) (by omega)
    have hgN : Good ao (recsOf 1 N) := by
      rw [hao, hpe]
      refine Good.full (fun q hq => ?_) _
      obtain ⟨y, hy, rfl⟩ := List.mem_map.1 hq
      exact ⟨(by omega : (1 : Int) ≤ 1), (by omega : (1 : Int) ≤ 255), Nat.le_trans (h.okN.2 y hy) (by omega)⟩
    have turned : ∀ b', b' = (d.settle last).now → Img b' (slotB x.gen x.area) (slotB (x.gen + 1) ((1 - x.area : Nat) : Int)) (Fb P R ++ Zs (1484 - (Fb P R).length)) ao r gi x.area 1484 →
        slotsG (d.settle last) = (x.gen + 1, 1 - x.area) ∧ Good (areaB (d.settle last) (1 - x.area)) (recsOf 1 N) := by
      intro b' hb' him'
      rw [hb'] at him'
      refine ⟨(img_slots hok hsz him' hg t1 tn).2 (by omega), ?_⟩
      rw [(img_area hok hsz him' h.area).2]
      exact hgN
    rcases hso with ⟨rfl, rfl⟩ | ⟨hold, hp, hl⟩
    · rw [List.take_nil, splice_nil] at hnow
      obtain ⟨k1, k2⟩ := turned d.b hnow.symm him
      exact ⟨x.gen + 1, 1 - x.area, recsOf 1 N, N, [], k1, by omega, by omega, k2, split_parts N [], .inl ⟨hs, rfl, rfl, rfl⟩⟩
    · have hlens := him.lens hg h.area
      have htl : (l.take last.toNat).length ≤ 16 := by rw [List.length_take, hl, slotB_len]; omega
      have hsl := him.slot hg (l := l.take last.toNat) htl
      rw [← hp, ← hnow] at hsl
      rcases torn_slot (na := 1 - x.area) (1 - gi) hold hg0 (by omega) last.toNat with ht | ⟨g', a', t2, hlt⟩
      · rw [← hl] at ht
        rw [ht, splice_all so l (by rw [hl, slotB_len]; exact hlens.2.1.symm), hl] at hsl
        obtain ⟨k1, k2⟩ := turned _ rfl hsl
        exact ⟨x.gen + 1, 1 - x.area, recsOf 1 N, N, [], k1, by omega, by omega, k2, split_parts N [], .inl ⟨hs, rfl, rfl, rfl⟩⟩
      · rw [← hl] at t2
        refine ⟨x.gen, x.area, Fr P R, P, R, (img_slots hok hsz hsl hg t1 t2).1 hlt, hg0, h.area, ?_, hsp, .inr ⟨rfl, R.length, hsr, Nat.le_refl _, by rw [List.take_length]⟩⟩
        rw [(img_area hok hsz hsl h.area).1]
        exact hfull
end Go.Proofs.Ytmbemlpmfklddaa.Own
namespace Go.Proofs.Ytmbemlpmfklddaa.Own
open Go.RowKit Go.Proofs.YtmbemlpmfklddaaW.PrintWords Go.Proofs.YtmbemlpmfklddaaW.PrintLast Go.Proofs.YtmbemlpmfklddaaW.PrintMore
/-- One op of many, here and in each world behind. -/
theorem op14_at {w : World} {A : Option Addr} {xs : List Op14} (h : Kd.C k83 w A xs.length xs) (q : ∀ x ∈ xs, Q83 x) (i : Nat) (hi : i < xs.length) : ∃ ad kd la b L A2 c2 A3 c3, A = some ad ∧ b.length ≤ c2 ∧ Byt b ∧ (∀ y ∈ L, Byt y) ∧
    (Kd.int .u8).C w A2 b.length b ∧ BL.C w A3 L.length L ∧
    (∀ W' : World, Below w.heap.size w W' → W'.cell? (ad.add (i * 4)) = some (.int .i64 kd) ∧ W'.cell? ⟨(ad.add (i * 4)).block, (ad.add (i * 4)).off + 1, none⟩ = some (.int .i64 la) ∧
      W'.cell? ⟨(ad.add (i * 4)).block, (ad.add (i * 4)).off + 2, none⟩ = some (.slice A2 b.length c2) ∧ W'.cell? ⟨(ad.add (i * 4)).block, (ad.add (i * 4)).off + 3, none⟩ = some (.slice A3 L.length c3)) := by
  obtain ⟨ad, A2, c2, A3, c3, e, e0, e1, e2, e3, k2, C2, C3⟩ := at83 h i hi rfl
  have hq := q _ (List.getElem_mem hi)
  exact ⟨ad, _, _, _, _, A2, c2, A3, c3, e, k2, hq.2.2.1, hq.2.2.2, C2, C3, fun W' hb => ⟨pw_cell_below hb e0, pw_cell_below hb e1, pw_cell_below hb e2, pw_cell_below hb e3⟩⟩
section
variable {w W : World} {gl g : Nat} {x : Lg} {d : Dm} {parts : List Int} {Ps : List Thing}
theorem WalS.newCells (h : WalS w W gl g x d parts Ps) (cs : Array Value) (t : TypeId) : WalS w (W.alloc (.cells cs t)) gl g x d parts (CellsT W.heap.size cs t :: Ps) := by
  obtain ⟨vl, vb, h1, h⟩ := h
  have hy := h.newCells cs t
  exact ⟨vl, vb, h1, hy.perm (by
    refine List.Perm.trans (List.Perm.swap _ _ _) (List.Perm.cons _ ?_)
    refine List.Perm.trans (List.Perm.swap _ _ _) (List.Perm.cons _ ?_)
    exact List.Perm.swap _ _ _)⟩
/-- The first of the other things, put ahead; and back. -/
theorem WalS.front {Q : Thing} (h : WalS w W gl g x d parts (Q :: Ps)) : ∃ vl vb, (1 ≤ x.stage ∧ x.stage ≤ 4 → vl = vb) ∧ Here w W (Q :: LogT gl g x vl :: DiskT g d :: BytesT vb parts :: Ps) := by
  obtain ⟨vl, vb, h1, h⟩ := h
  exact ⟨vl, vb, h1, Here.nth h 3 (by simp)⟩
theorem WalS.back {Q : Thing} {vl vb : Value} (h1 : 1 ≤ x.stage ∧ x.stage ≤ 4 → vl = vb) (h : Here w W (Q :: LogT gl g x vl :: DiskT g d :: BytesT vb parts :: Ps)) : WalS w W gl g x d parts (Q :: Ps) :=
  ⟨vl, vb, h1, h.perm (by
    refine List.Perm.trans (List.Perm.swap _ _ _) (List.Perm.cons _ ?_)
    refine List.Perm.trans (List.Perm.swap _ _ _) (List.Perm.cons _ ?_)
    exact List.Perm.swap _ _ _)⟩
theorem WalS.lose {Q : Thing} (h : WalS w W gl g x d parts (Q :: Ps)) : WalS w W gl g x d parts Ps := by
  obtain ⟨vl, vb, h1, h⟩ := h.front
  exact ⟨vl, vb, h1, h.drop⟩
theorem WalS.swap {Q R : Thing} (h : WalS w W gl g x d parts (Q :: R :: Ps)) : WalS w W gl g x d parts (R :: Q :: Ps) := by
  obtain ⟨vl, vb, h1, h⟩ := h
  refine ⟨vl, vb, h1, h.perm ?_⟩
  exact ((List.Perm.swap _ _ _).cons _).cons _ |>.cons _
/-- An op's four cells. -/
theorem WalS.op {k l : Int} {A2 A3 : Option Addr} {n2 c2 n3 c3 o : Nat} (h : WalS w W gl g x d parts (CellsT o #[.int .i64 k, .int .i64 l, .slice A2 n2 c2, .slice A3 n3 c3] 83 :: Ps)) :
    W.cell? ⟨o, 0, none⟩ = some (.int .i64 k) ∧ W.cell? ⟨o, 1, none⟩ = some (.int .i64 l) ∧ W.cell? ⟨o, 2, none⟩ = some (.slice A2 n2 c2) ∧ W.cell? ⟨o, 3, none⟩ = some (.slice A3 n3 c3) := by
  obtain ⟨vl, vb, h1, h⟩ := h.front
  have hb := h.cells
  exact ⟨cell_of_row W o 0 _ _ _ hb, cell_of_row W o 1 _ _ _ hb, cell_of_row W o 2 _ _ _ hb, cell_of_row W o 3 _ _ _ hb⟩
theorem WalS.addRaw (h : WalS w W gl g x d parts Ps) (sz e : Nat) : WalS w W gl g x d parts (RawT sz e (.slice none 0 0) [] :: Ps) := by
  obtain ⟨vl, vb, h1, h⟩ := h
  exact WalS.back h1 (h.addRaw sz e)
end
theorem stepL_sure (x : Lg) (pb : List Int) : (stepL x pb).sure = x.sure ∧ (stepL x pb).all = x.all := by
  unfold stepL
  by_cases h0 : x.stage = 0
  · rw [if_pos h0]; exact ⟨rfl, rfl⟩
  · rw [if_neg h0]
    by_cases h4 : x.stage = 4
    · rw [if_pos h4]; exact ⟨rfl, rfl⟩
    · rw [if_neg h4]; exact ⟨rfl, rfl⟩
theorem appL_sure (x : Lg) (d : Dm) (b : List Int) : (appL x d b).sure = x.sure := by
  unfold appL
  by_cases h : (appE x d b).2 = 0
  · rw [if_pos h]
  · rw [if_neg h]
theorem begL_sure (x : Lg) (d : Dm) (L : List (List Int)) : (begL x d L).sure = x.sure := by
  unfold begL
  by_cases h : begE x d L = 0
  · rw [if_pos h]
  · rw [if_neg h]
/-- What holds at each op of WalBegins. -/
structure BegJ (w W : World) (gl g : Nat) (v11 : Value) (SP SN : ByteArray) (rows : List (List Value)) (x : Lg) (d : Dm) (pb : List Int) (P N R : List (List Int)) (gone sr i : Nat) : Prop where
  inv : BegI x d pb P N R gone i
  byt : Byt pb
  sp : SP = strOfNums (joinB P)
  sn : SN = strOfNums (joinB N)
  sr : sr = x.sure - gone
  told : RowsOf w rows R
  mem : WalS w W gl g x d pb [RawT 1 22 v11 rows]
theorem BegJ.lim {w W : World} {gl g : Nat} {v11 : Value} {SP SN : ByteArray} {rows : List (List Value)} {x : Lg} {d : Dm} {pb : List Int} {P N R : List (List Int)} {gone sr i : Nat} (h : BegJ w W gl g v11 SP SN rows x d pb P N R gone sr i) (hi : i ≤ 1000) :
    d.q.length ≤ 1000000 ∧ x.tail ≤ Sz d ∧ x.area ≤ 1 ∧ x.all ≤ 1000000 ∧ x.stage ≤ 5 ∧ (0 ≤ x.gen ∧ x.gen < 4294967295) ∧ (x.stage = 2 → pb.length ≤ Sz d) ∧ rows.length ≤ 1000 := by
  have h1 := h.inv.q
  have h2 := h.inv.tail
  have h3 := h.inv.fit
  have h4 := h.inv.sz
  have h5 := h.inv.alli
  have h6 := h.inv.g0
  have h7 := h.inv.g1
  have h8 := h.told.1
  have h9 := h.inv.all
  refine ⟨by omega, by omega, h.inv.area, by omega, h.inv.stage, ⟨by omega, by omega⟩, fun hs => ?_, by omega⟩
  have := (h.inv.parts (by omega) (by omega)).2
  omega
end Go.Proofs.Ytmbemlpmfklddaa.Own
