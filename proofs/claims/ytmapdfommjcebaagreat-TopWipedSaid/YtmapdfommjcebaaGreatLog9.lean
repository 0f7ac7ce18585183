/- A disk's bytes, parted: two slots, two areas, and what is left; what a write does to them; what the slots tell. Behind appends, and behind a change; a log's ops as arguments. -/
import Derived.Test.YtmapdfommjcebaaGreatLgc
namespace Go.Proofs.YtmapdfommjcebaaGreat.Own
open Go.RowKit
theorem splice_head (v t : List Int) (p : Nat) (l : List Int) (h : p + l.length ≤ v.length) : splice (v ++ t) p l = splice v p l ++ t := by
  unfold splice
  rw [List.take_append_of_le_length (by omega), List.drop_append_of_le_length h]
  simp
theorem splice_tail (u v : List Int) (p : Nat) (l : List Int) : splice (u ++ v) (u.length + p) l = u ++ splice v p l := by
  unfold splice
  rw [List.take_length_add_append, Nat.add_assoc, List.drop_length_add_append]
  simp
theorem splice_at (u v : List Int) (q p : Nat) (l : List Int) (hq : q = u.length + p) : splice (u ++ v) q l = u ++ splice v p l := by
  subst hq
  exact splice_tail u v p l
theorem splice_all (v l : List Int) (h : l.length = v.length) : splice v 0 l = l := by
  unfold splice
  rw [List.take_zero, List.drop_eq_nil_of_le (by omega)]
  simp
theorem splice_zero (v l : List Int) : splice v 0 l = l ++ v.drop l.length := by
  unfold splice
  simp
/-- Two slots, two areas, what is left. -/
structure Lay (b s0 s1 a0 a1 r : List Int) (z : Nat) : Prop where
  eq : b = s0 ++ (s1 ++ (a0 ++ (a1 ++ r)))
  l0 : s0.length = 16
  l1 : s1.length = 16
  m0 : a0.length = z
  m1 : a1.length = z
section
variable {b s0 s1 a0 a1 r : List Int} {z : Nat}
theorem lay_of (b : List Int) (z : Nat) (h : 2 * z + 32 ≤ b.length) : ∃ s0 s1 a0 a1 r, Lay b s0 s1 a0 a1 r z := by
  refine ⟨b.take 16, (b.drop 16).take 16, ((b.drop 16).drop 16).take z, (((b.drop 16).drop 16).drop z).take z, (((b.drop 16).drop 16).drop z).drop z, ?_, ?_, ?_, ?_, ?_⟩
  · rw [List.take_append_drop, List.take_append_drop, List.take_append_drop, List.take_append_drop]
  all_goals
    simp only [List.length_take, List.length_drop]
    omega
theorem Lay.slot0 (h : Lay b s0 s1 a0 a1 r z) (l : List Int) (hl : l.length = 16) : Lay (splice b 0 l) l s1 a0 a1 r z := by
  refine ⟨?_, hl, h.l1, h.m0, h.m1⟩
  have h0 := h.l0
  rw [h.eq, splice_head _ _ _ _ (by omega), splice_all _ _ (by omega)]
theorem Lay.slot1 (h : Lay b s0 s1 a0 a1 r z) (l : List Int) (hl : l.length = 16) : Lay (splice b 16 l) s0 l a0 a1 r z := by
  refine ⟨?_, h.l0, hl, h.m0, h.m1⟩
  have h0 := h.l0
  have h1 := h.l1
  rw [h.eq, splice_at _ _ _ 0 _ (by omega), splice_head _ _ _ _ (by omega), splice_all _ _ (by omega)]
theorem Lay.area0 (h : Lay b s0 s1 a0 a1 r z) (p : Nat) (l : List Int) (hl : p + l.length ≤ z) : Lay (splice b (32 + p) l) s0 s1 (splice a0 p l) a1 r z := by
  have h0 := h.l0
  have h1 := h.l1
  have h2 := h.m0
  refine ⟨?_, h.l0, h.l1, by rw [splice_length (by omega)]; exact h2, h.m1⟩
  rw [h.eq, splice_at _ _ _ (16 + p) _ (by omega), splice_at _ _ _ p _ (by omega), splice_head _ _ _ _ (by omega)]
theorem Lay.area1 (h : Lay b s0 s1 a0 a1 r z) (p : Nat) (l : List Int) (hl : p + l.length ≤ z) : Lay (splice b (32 + z + p) l) s0 s1 a0 (splice a1 p l) r z := by
  have h0 := h.l0
  have h1 := h.l1
  have h2 := h.m0
  have h3 := h.m1
  refine ⟨?_, h.l0, h.l1, h.m0, by rw [splice_length (by omega)]; exact h3⟩
  rw [h.eq, splice_at _ _ _ (16 + z + p) _ (by omega), splice_at _ _ _ (z + p) _ (by omega), splice_at _ _ _ p _ (by omega), splice_head _ _ _ _ (by omega)]
theorem take_head (u v : List Int) (n : Nat) (h : u.length = n) : (u ++ v).take n = u := by
  subst h
  rw [List.take_append_of_le_length (Nat.le_refl _), List.take_length]
theorem drop_at' (u v : List Int) (q p : Nat) (h : q = u.length + p) : (u ++ v).drop q = v.drop p := by
  subst h
  exact List.drop_length_add_append p
theorem Lay.read0 (h : Lay b s0 s1 a0 a1 r z) : (b.drop 0).take 16 = s0 := by
  rw [h.eq, List.drop_zero, take_head _ _ _ h.l0]
theorem Lay.read1 (h : Lay b s0 s1 a0 a1 r z) : (b.drop 16).take 16 = s1 := by
  have h0 := h.l0
  rw [h.eq, drop_at' _ _ _ 0 (by omega), List.drop_zero, take_head _ _ _ h.l1]
theorem Lay.readA0 (h : Lay b s0 s1 a0 a1 r z) : (b.drop 32).take z = a0 := by
  have h0 := h.l0
  have h1 := h.l1
  rw [h.eq, drop_at' _ _ _ 16 (by omega), drop_at' _ _ _ 0 (by omega), List.drop_zero, take_head _ _ _ h.m0]
theorem Lay.readA1 (h : Lay b s0 s1 a0 a1 r z) : (b.drop (32 + z)).take z = a1 := by
  have h0 := h.l0
  have h1 := h.l1
  have h2 := h.m0
  rw [h.eq, drop_at' _ _ _ (16 + z) (by omega), drop_at' _ _ _ z (by omega), drop_at' _ _ _ 0 (by omega), List.drop_zero, take_head _ _ _ h.m1]
end
/-- A disk as it is read. -/
structure View (d : Dm) (s0 s1 a0 a1 r : List Int) (z : Nat) : Prop where
  ok : d.Ok
  sz : Sz d = z
  lay : Lay d.now s0 s1 a0 a1 r z
theorem now_write (d : Dm) (p : Int) (l : List Int) : (d.write p l).now = splice d.now p.toNat l := by
  simp [Dm.write, Dm.now, List.foldl_append]
theorem size_ok {d : Dm} (h : d.Ok) : 2 * Sz d + 32 ≤ d.b.length := by
  unfold Sz
  have := h.lo
  omega
section
variable {d : Dm} {s0 s1 a0 a1 r : List Int} {z : Nat}
theorem View.flush (h : View d s0 s1 a0 a1 r z) : View d.flush s0 s1 a0 a1 r z := ⟨Dm.ok_flush h.ok, (Sz_flush h.ok).trans h.sz, h.lay⟩
theorem View.slot0 (h : View d s0 s1 a0 a1 r z) (l : List Int) (hl : l.length = 16) : View (d.write 0 l) l s1 a0 a1 r z := by
  refine ⟨Dm.ok_write h.ok ⟨by omega, by omega, ?_⟩, h.sz, ?_⟩
  · have := h.ok.lo
    rw [hl]
    omega
  · rw [now_write]
    exact h.lay.slot0 l hl
theorem View.slot1 (h : View d s0 s1 a0 a1 r z) (l : List Int) (hl : l.length = 16) : View (d.write 16 l) s0 l a0 a1 r z := by
  refine ⟨Dm.ok_write h.ok ⟨by omega, by omega, ?_⟩, h.sz, ?_⟩
  · have := h.ok.lo
    rw [hl]
    omega
  · rw [now_write]
    exact h.lay.slot1 l hl
theorem View.area0 (h : View d s0 s1 a0 a1 r z) (p : Nat) (l : List Int) (hl : p + l.length ≤ z) : View (d.write (plc d 0 p) l) s0 s1 (splice a0 p l) a1 r z := by
  have hs := size_ok h.ok
  have hz := h.sz
  refine ⟨Dm.ok_write h.ok ⟨by omega, by omega, ?_⟩, h.sz, ?_⟩
  · unfold plc
    omega
  · rw [now_write, Int.toNat_natCast]
    unfold plc
    rw [show 32 + 0 * Sz d + p = 32 + p by omega]
    exact h.lay.area0 p l hl
theorem View.area1 (h : View d s0 s1 a0 a1 r z) (p : Nat) (l : List Int) (hl : p + l.length ≤ z) : View (d.write (plc d 1 p) l) s0 s1 a0 (splice a1 p l) r z := by
  have hs := size_ok h.ok
  have hz := h.sz
  refine ⟨Dm.ok_write h.ok ⟨by omega, by omega, ?_⟩, h.sz, ?_⟩
  · unfold plc
    omega
  · rw [now_write, Int.toNat_natCast]
    unfold plc
    rw [show 32 + 1 * Sz d + p = 32 + z + p by omega]
    exact h.lay.area1 p l hl
theorem View.slots (h : View d s0 s1 a0 a1 r z) : slotsG d = if (toldR s0 0).1 < (toldR s1 1).1 then toldR s1 1 else toldR s0 0 := by
  unfold slotsG Dm.read
  rw [h.lay.read0, h.lay.read1]
theorem View.areaB0 (h : View d s0 s1 a0 a1 r z) : areaB d 0 = a0 := by
  unfold areaB Dm.read plc
  rw [h.sz, show 32 + 0 * z + 0 = 32 by omega]
  exact h.lay.readA0
theorem View.areaB1 (h : View d s0 s1 a0 a1 r z) : areaB d 1 = a1 := by
  unfold areaB Dm.read plc
  rw [h.sz, show 32 + 1 * z + 0 = 32 + z by omega]
  exact h.lay.readA1
theorem View.format (ho : d.Ok) : ∃ r, View d.format (List.replicate 16 0) (slotB 1 0) (List.replicate (Sz d) 0) (List.replicate (Sz d) 0) r (Sz d) := by
  have h1 := size_ok ho
  have hw : (d.write 0 (List.replicate d.b.length 0)).Ok := Dm.ok_write ho ⟨by omega, by omega, by rw [List.length_replicate]; omega⟩
  have hn : (d.write 0 (List.replicate d.b.length 0)).now = List.replicate d.b.length 0 := by
    rw [now_write]
    exact splice_all _ _ (by rw [List.length_replicate, Dm.now_length ho])
  have hl : Lay (List.replicate d.b.length (0 : Int)) (List.replicate 16 0) (List.replicate 16 0) (List.replicate (Sz d) 0) (List.replicate (Sz d) 0) (List.replicate (d.b.length - (2 * Sz d + 32)) 0) (Sz d) := by
    refine ⟨?_, by simp, by simp, by simp, by simp⟩
    rw [List.replicate_append_replicate, List.replicate_append_replicate, List.replicate_append_replicate, List.replicate_append_replicate]
    congr 1
    omega
  have hv : View (d.write 0 (List.replicate d.b.length 0)) (List.replicate 16 0) (List.replicate 16 0) (List.replicate (Sz d) 0) (List.replicate (Sz d) 0) (List.replicate (d.b.length - (2 * Sz d + 32)) 0) (Sz d) := ⟨hw, rfl, by rw [hn]; exact hl⟩
  exact ⟨_, (hv.slot1 (slotB 1 0) (slotB_len 1 0)).flush⟩
end
theorem told_slot (gen : Int) (area : Nat) (i : Nat) (h0 : 0 < gen) (h1 : gen < 4294967296) (hi : gen % 2 = i) (ha : area ≤ 1) : toldR (slotB gen area) i = (gen, area) := by
  have hg : genB (slotB gen area) = gen := by
    unfold genB slotB fourB
    simp only [List.cons_append, List.nil_append, List.getD_cons_succ, List.getD_cons_zero]
    omega
  have h5 : (slotB gen (area : Int)).getD 5 0 = area := by
    unfold slotB fourB
    simp only [List.cons_append, List.nil_append, List.getD_cons_succ, List.getD_cons_zero]
    omega
  unfold toldR
  rw [hg, h5, if_pos ⟨by omega, hi, by omega, rfl⟩, Int.toNat_natCast]
theorem told_zeros (i : Nat) : toldR (List.replicate 16 0) i = (0, 0) := by
  unfold toldR
  rw [if_neg]
  intro h
  exact h.1 (by decide)
/-- A checkpoint alone. -/
theorem split_parts : ∀ (L P : List (List Int)), splitR (recsOf 1 L) P [] = some (P ++ L, [])
  | [], P => by simp [recsOf, splitR]
  | l :: L, P => by
    show splitR ((1, l) :: recsOf 1 L) P [] = _
    rw [splitR, if_pos ⟨rfl, rfl⟩, split_parts L (P ++ [l])]
    simp
theorem read_parts {L : List (List Int)} (hL : ∀ p ∈ L, p.length ≤ 60000) (k : Nat) : readR (framesOf (recsOf 1 L) ++ List.replicate k 0) = (recsOf 1 L, (framesOf (recsOf 1 L)).length, 0) := by
  have h := read_frames (recsOf 1 L) (by
    intro r hr
    obtain ⟨p, hp, rfl⟩ := List.mem_map.1 hr
    exact ⟨(by omega : (1 : Int) ≤ 1), (by omega : (1 : Int) ≤ 255), hL p hp⟩) (List.replicate k 0)
  rw [zero_stop] at h
  simpa [framesOf] using h
end Go.Proofs.YtmapdfommjcebaaGreat.Own
namespace Go.Proofs.YtmapdfommjcebaaGreat.Own
open Go.ChangeShapes Go.WideShapes Go.ChangeAt Go.RowKit Go.Deep Go.Joins Go.Proofs.YtmapdfommjcebaaGreatW.PrintWords
/-- The log of WalRoom and its disk, behind i appends. -/
structure RoomI (x : Lg) (d : Dm) (r i : Nat) : Prop where
  gen : x.gen = 1
  area : x.area = 0
  stage : x.stage = 0
  tail : x.tail + r = 1484
  sz : Sz d = 1484
  all : x.all ≤ i
  q : d.q.length ≤ i
theorem RoomI.start : RoomI ⟨1, 0, 0, 0, 0, 0⟩ (Dm.new 3000).format 1484 0 := by
  have ho : (Dm.new 3000).Ok := Dm.ok_new (by omega) (by omega)
  have h1 : ((Dm.new 3000).write 0 (List.replicate (Dm.new 3000).b.length 0)).Ok := Dm.ok_write ho ⟨by omega, by omega, by rw [List.length_replicate]; omega⟩
  have hb : (Dm.new 3000).b.length = 3000 := List.length_replicate
  have h2 : (((Dm.new 3000).write 0 (List.replicate (Dm.new 3000).b.length 0)).write 16 (slotB 1 0)).Ok := Dm.ok_write h1 ⟨by omega, by omega, by rw [slotB_len]; show _ ≤ ((Dm.new 3000).b.length : Int); rw [hb]; omega⟩
  refine ⟨rfl, rfl, rfl, rfl, ?_, Nat.le_refl _, Nat.le_refl _⟩
  unfold Dm.format
  rw [Sz_flush h2]
  rw [Sz_write, Sz_write]
  unfold Sz
  rw [hb]
/-- What comes of an append. -/
theorem RoomI.app {x : Lg} {d : Dm} {r i : Nat} (h : RoomI x d r i) (b : List Int) :
    ((appE x d b).2 = 0 ∧ b.length + 9 ≤ r ∧ RoomI (appL x d b) (appD x d b) (r - b.length - 9) (i + 1)) ∨ ((appE x d b).2 = 3 ∧ RoomI (appL x d b) (appD x d b) r (i + 1)) ∨ ((appE x d b).2 = 5 ∧ r < b.length + 9 ∧ RoomI (appL x d b) (appD x d b) r (i + 1)) := by
  have h1 := h.tail
  have h2 := h.sz
  have h3 := h.all
  have h4 := h.q
  have keep : RoomI x d r (i + 1) := ⟨h.gen, h.area, h.stage, h.tail, h.sz, by omega, by omega⟩
  rcases appE_cases x d b with ⟨_, he⟩ | ⟨_, hs, _⟩ | ⟨_, _, hf, he⟩ | ⟨_, _, hf, he⟩
  · refine .inr (.inl ⟨by rw [he], ?_⟩)
    unfold appL appD
    rw [he]
    exact keep
  · exact absurd h.stage hs
  · refine .inr (.inr ⟨by rw [he], by omega, ?_⟩)
    unfold appL appD
    rw [he]
    exact keep
  · refine .inl ⟨by rw [he], by omega, ?_⟩
    unfold appL appD
    rw [he]
    exact ⟨h.gen, h.area, h.stage, by show x.tail + b.length + 9 + (r - b.length - 9) = 1484; omega, by rw [if_pos rfl, Sz_write]; exact h2, by show x.all + 1 ≤ i + 1; omega, by rw [if_pos rfl]; simp only [Dm.write, List.length_append, List.length_singleton]; omega⟩
theorem frames_take {L : List (List Int)} {i : Nat} (hi : i < L.length) : (framesOf (recsOf 1 (L.take (i + 1)))).length = (framesOf (recsOf 1 (L.take i))).length + (L[i].length + 9) := by
  rw [recs_take hi, framesOf_append, List.length_append, framesOf_one, frameR_len]
theorem great_no {n : Nat} {L : List (List Int)} (h : ¬ greatR n L) : n ≤ 1900 ∧ L.length ≤ 5 ∧ ∀ p ∈ L, p.length ≤ 1000 := by
  unfold greatR at h
  refine ⟨by omega, by omega, fun p hp => ?_⟩
  by_cases hc : p.length ≤ 1000
  · exact hc
  · exact absurd (.inr (.inr ⟨p, hp, by omega⟩)) h
theorem Sz_step {x : Lg} {d : Dm} (ho : d.Ok) (parts : List Int) : Sz (stepD x d parts) = Sz d := by
  unfold stepD
  split
  · rfl
  · rw [Sz_write, Sz_flush ho]
  · rw [Sz_write, Sz_flush ho]
  · rw [Sz_write, Sz_flush ho]
  · rw [Sz_write, Sz_flush ho]
  · exact Sz_flush ho
/-- What Begin answers behind a Sync. -/
theorem RoomI.begin {x : Lg} {d : Dm} {r i : Nat} (h : RoomI x d r i) (ho : d.Ok) (L : List (List Int)) :
    (1484 < (framesOf (recsOf 1 L)).length ∧ begE { x with sure := x.all } d.flush L = 5) ∨
    ((framesOf (recsOf 1 L)).length ≤ 1484 ∧ begE { x with sure := x.all } d.flush L = 0 ∧ begL { x with sure := x.all } d.flush L = ⟨1, 0, x.tail, x.all, x.all, 1⟩ ∧ begP { x with sure := x.all } d.flush [] L = framesOf (recsOf 1 L)) := by
  have hs := Sz_flush ho
  rw [h.sz] at hs
  have hn : ¬ (x.stage ≠ 0 ∨ x.all < x.all) := by have := h.stage; omega
  by_cases hc : 1484 < (framesOf (recsOf 1 L)).length
  · refine .inl ⟨hc, ?_⟩
    unfold begE
    rw [if_neg hn, if_pos (by rw [hs]; exact hc)]
  · have he : begE { x with sure := x.all } d.flush L = 0 := by
      unfold begE
      rw [if_neg hn, if_neg (by rw [hs]; exact hc)]
    refine .inr ⟨by omega, he, ?_, ?_⟩
    · unfold begL
      rw [if_pos he, h.gen, h.area]
    · unfold begP
      rw [if_pos he]
theorem Byt.frame (r : Rec) (h : Byt r.2) : Byt (frameR r) := by
  unfold frameR
  exact (((Byt.cons (by omega) (by omega) (Byt.cons (by omega) (by omega) (Byt.cons (by omega) (by omega) (Byt.cons (by omega) (by omega) Byt.nil)))).append h).append (Byt.four _)).append (Byt.cons (by omega) (by omega) Byt.nil)
theorem Byt.frames (k : Int) (L : List (List Int)) (h : ∀ p ∈ L, Byt p) : Byt (framesOf (recsOf k L)) := by
  induction L with
  | nil => exact Byt.nil
  | cons p L ih =>
    show Byt (framesOf ((k, p) :: recsOf k L))
    rw [framesOf_cons]
    exact (Byt.frame (k, p) (h p List.mem_cons_self)).append (ih (fun q hq => h q (List.mem_cons_of_mem _ hq)))
theorem ByD.step {x : Lg} {d : Dm} (h : ByD d) (ho : d.Ok) {parts : List Int} (hp : Byt parts) : ByD (stepD x d parts) := by
  unfold stepD
  split
  · exact h
  · exact (h.flush ho).write _ (Byt.zeros _)
  · exact (h.flush ho).write _ hp
  · exact (h.flush ho).write _ (Byt.slot _ _)
  · exact (h.flush ho).write _ (Byt.zeros _)
  · exact h.flush ho
/-- Behind appends: the second area has noughts alone. -/
structure WipI (x : Lg) (d : Dm) (r i : Nat) : Prop where
  room : RoomI x d r i
  byt : ByD d
  view : ∃ a0 t, View d (List.replicate 16 0) (slotB 1 0) a0 (List.replicate 1484 0) t 1484
theorem WipI.start : WipI ⟨1, 0, 0, 0, 0, 0⟩ (Dm.new 3000).format 1484 0 := by
  have ho : (Dm.new 3000).Ok := Dm.ok_new (by omega) (by omega)
  refine ⟨RoomI.start, (ByD.new 3000).format ho, ?_⟩
  obtain ⟨t, h⟩ := View.format ho
  have hs : Sz (Dm.new 3000) = 1484 := by
    unfold Sz
    rw [show (Dm.new 3000).b.length = 3000 from List.length_replicate]
  rw [hs] at h
  exact ⟨_, t, h⟩
theorem WipI.app {x : Lg} {d : Dm} {r i : Nat} (h : WipI x d r i) (b : List Int) (hb : Byt b) : ∃ r', r' ≤ r ∧ WipI (appL x d b) (appD x d b) r' (i + 1) := by
  have hr := h.room
  rcases hr.app b with ⟨he, hle, hn⟩ | ⟨he, hn⟩ | ⟨he, _, hn⟩
  · refine ⟨_, by omega, hn, ?_, ?_⟩
    · unfold appD
      rw [if_pos he]
      exact h.byt.write _ (Byt.frame _ hb)
    · obtain ⟨a0, t, hv⟩ := h.view
      unfold appD
      rw [if_pos he, hr.area]
      refine ⟨_, t, hv.area0 x.tail _ ?_⟩
      rw [frameR_len]
      have := hr.tail
      show x.tail + (b.length + 9) ≤ 1484
      omega
  · refine ⟨r, Nat.le_refl _, hn, ?_, ?_⟩
    · unfold appD
      rw [if_neg (by omega)]
      exact h.byt
    · unfold appD
      rw [if_neg (by omega)]
      exact h.view
  · refine ⟨r, Nat.le_refl _, hn, ?_, ?_⟩
    · unfold appD
      rw [if_neg (by omega)]
      exact h.byt
    · unfold appD
      rw [if_neg (by omega)]
      exact h.view
/-- Nothing is appended. -/
theorem WipI.more {x : Lg} {d : Dm} {r i : Nat} (h : WipI x d r i) : WipI x d r (i + 1) :=
  ⟨⟨h.room.gen, h.room.area, h.room.stage, h.room.tail, h.room.sz, by have := h.room.all; omega, by have := h.room.q; omega⟩, h.byt, h.view⟩
theorem plc_eq {d d' : Dm} (h : Sz d' = Sz d) (a p : Nat) : plc d' a p = plc d a p := by unfold plc; rw [h]
/-- Behind the five steps of a change. -/
theorem run_view {d : Dm} {a0 t pb : List Int} {tail all : Nat} (h : View d (List.replicate 16 0) (slotB 1 0) a0 (List.replicate 1484 0) t 1484) (hp : pb.length ≤ 1484) :
    View (runS pb 5 (⟨1, 0, tail, all, all, 1⟩, d)).2 (slotB 2 1) (slotB 1 0) (List.replicate 1484 0) (pb ++ List.replicate (1484 - pb.length) 0) t 1484 := by
  have e0 := h.lay.m0
  have z0 : ∀ a : List Int, a.length = 1484 → splice a 0 (List.replicate 1484 0) = List.replicate 1484 0 := fun a ha => splice_all _ _ (by rw [List.length_replicate, ha])
  have v1 := h.flush.area1 0 (List.replicate 1484 0) (by rw [List.length_replicate]; omega)
  rw [z0 _ (by rw [List.length_replicate])] at v1
  have v2 := v1.flush.area1 0 pb (by omega)
  have e2 : splice (List.replicate 1484 (0 : Int)) 0 pb = pb ++ List.replicate (1484 - pb.length) 0 := by
    rw [splice_zero, List.drop_replicate]
  rw [e2] at v2
  have v3 := v2.flush.slot0 (slotB 2 1) (slotB_len 2 1)
  have v4 := v3.flush.area0 0 (List.replicate 1484 0) (by rw [List.length_replicate]; omega)
  rw [z0 _ e0] at v4
  have v5 := v4.flush
  have s0 := h.sz
  have s1 := v1.sz
  have s3 := v3.sz
  have f0 := h.flush.sz
  have f1 := v1.flush.sz
  have f3 := v3.flush.sz
  rw [plc_eq (f0.trans s0.symm)] at v1 v2 v3 v4 v5 s1 s3 f1 f3
  rw [plc_eq (f1.trans s1.symm)] at v2 v3 v4 v5 s3 f3
  rw [plc_eq (f3.trans s3.symm)] at v4 v5
  have e : (runS pb 5 (⟨1, 0, tail, all, all, 1⟩, d)).2 = ((((d.flush.write (plc d 1 0) (List.replicate (Sz d) 0)).flush.write (plc (d.flush.write (plc d 1 0) (List.replicate (Sz d) 0)) 1 0) pb).flush.write 0 (slotB 2 1)).flush.write
      (plc (((d.flush.write (plc d 1 0) (List.replicate (Sz d) 0)).flush.write (plc (d.flush.write (plc d 1 0) (List.replicate (Sz d) 0)) 1 0) pb).flush.write 0 (slotB 2 1)) 0 0)
      (List.replicate (Sz (((d.flush.write (plc d 1 0) (List.replicate (Sz d) 0)).flush.write (plc (d.flush.write (plc d 1 0) (List.replicate (Sz d) 0)) 1 0) pb).flush.write 0 (slotB 2 1))) 0)).flush := rfl
  rw [e]
  rw [s0]
  rw [s3]
  exact v5
theorem run_byt {d : Dm} {pb : List Int} (hp : Byt pb) : ∀ (k : Nat) (s : Lg × Dm), ByD s.2 → (∀ j, j < k → (runS pb j s).2.Ok) → ByD (runS pb k s).2
  | 0, _, h, _ => h
  | k + 1, s, h, ho => (run_byt (d := d) hp k s h (fun j hj => ho j (by omega))).step (ho k (by omega)) hp
/-- What is opened behind a change. -/
theorem wip_open {d : Dm} {L : List (List Int)} {t : List Int} (h : View d (slotB 2 1) (slotB 1 0) (List.replicate 1484 0) (framesOf (recsOf 1 L) ++ List.replicate (1484 - (framesOf (recsOf 1 L)).length) 0) t 1484) (hL : ∀ p ∈ L, p.length ≤ 60000) :
    slotsG d = (2, 1) ∧ readR (areaB d 1) = (recsOf 1 L, (framesOf (recsOf 1 L)).length, 0) ∧ splitR (recsOf 1 L) [] [] = some (L, []) := by
  refine ⟨?_, ?_, ?_⟩
  · have e1 : toldR (slotB 2 1) 0 = (2, 1) := told_slot 2 1 0 (by omega) (by omega) (by omega) (by omega)
    have e2 : toldR (slotB 1 0) 1 = (1, 0) := told_slot 1 0 1 (by omega) (by omega) (by omega) (by omega)
    rw [h.slots, e1, e2]
    rfl
  · rw [h.areaB1]
    exact read_parts hL _
  · exact split_parts L []
/-- How many bytes are not nought. -/
def cntZ (l : List Int) : Nat := l.countP (fun x => x != 0)
theorem cntZ_take {l : List Int} {k : Nat} (hk : k < l.length) : cntZ (l.take (k + 1)) = cntZ (l.take k) + if l.getD k 0 = 0 then 0 else 1 := by
  unfold cntZ
  rw [List.take_add_one, List.getElem?_eq_getElem hk, List.countP_append, List.getD_eq_getElem?_getD, List.getElem?_eq_getElem hk]
  simp only [Option.toList, Option.getD_some, List.countP_cons, List.countP_nil]
  by_cases h : l[k] = 0
  · rw [h]; simp
  · simp [h]
theorem cntZ_le (pb : List Int) (k : Nat) : cntZ (pb ++ List.replicate k 0) ≤ pb.length := by
  unfold cntZ
  rw [List.countP_append, List.countP_replicate]
  have := List.countP_le_length (p := fun x : Int => x != 0) (l := pb)
  simpa using this
/-- An op of the log's laws. -/
abbrev Op14 := Int × Int × List Int × List (List Int)
def k83 : Kd Op14 := Kd.pair (Kd.int .i64) (Kd.pair (Kd.int .i64) (Kd.pair (Kd.slice 5 (Kd.int .u8)) (Kd.slice 29 (Kd.slice 5 (Kd.int .u8)))))
def Q83 (x : Op14) : Prop := (-9223372036854775808 ≤ x.1 ∧ x.1 ≤ 9223372036854775807) ∧ (-9223372036854775808 ≤ x.2.1 ∧ x.2.1 ≤ 9223372036854775807) ∧ (∀ z ∈ x.2.2.1, 0 ≤ z ∧ z < 256) ∧ ∀ y ∈ x.2.2.2, ∀ z ∈ y, 0 ≤ z ∧ z < 256
theorem opensL {H : Type} {enc : TypeId × Value → H} {w : World} {base : Nat} {spare : Nat → Bool} {held : Bool} : Opens enc Tryz.prog w base spare held 23 (Kd.slice 29 (Kd.slice 5 (Kd.int .u8))) (fun xs => ∀ y ∈ xs, ∀ z ∈ y, 0 ≤ z ∧ z < 256) :=
  opens_rows (d := Kd.slice 5 (Kd.int .u8)) Tryz.underlying23 (by kernel_rfl) opensRows 29
theorem at83 {w : World} {A : Option Addr} {n : Nat} {xs : List Op14} (h : Kd.C k83 w A n xs) (i : Nat) (hi : i < xs.length) (hn : n = xs.length) : ∃ ad A2 c2 A3 c3, A = some ad ∧ w.cell? (ad.add (i * 4)) = some (.int .i64 xs[i].1) ∧
    w.cell? ⟨(ad.add (i * 4)).block, (ad.add (i * 4)).off + 1, none⟩ = some (.int .i64 xs[i].2.1) ∧ w.cell? ⟨(ad.add (i * 4)).block, (ad.add (i * 4)).off + 2, none⟩ = some (.slice A2 xs[i].2.2.1.length c2) ∧
    w.cell? ⟨(ad.add (i * 4)).block, (ad.add (i * 4)).off + 3, none⟩ = some (.slice A3 xs[i].2.2.2.length c3) ∧ xs[i].2.2.1.length ≤ c2 ∧ (Kd.int .u8).C w A2 xs[i].2.2.1.length xs[i].2.2.1 ∧
      (Kd.slice 5 (Kd.int .u8)).C w A3 xs[i].2.2.2.length xs[i].2.2.2 := by
  obtain ⟨ad, c, e, _, hK, hc0⟩ := Kd.C_get h (0, 0, [], []) (i : Int) (by omega) (by omega)
  have e0 : xs.getD (i : Int).toNat (0, 0, [], []) = xs[i] := by
    rw [Int.toNat_natCast]
    simp [List.getD_eq_getElem?_getD, List.getElem?_eq_getElem hi]
  rw [e0] at hK
  have hc : ∀ j u, c[j]? = some u → w.cell? (ad.add (i * 4 + j)) = some u := hc0
  obtain ⟨_, _, rfl, rfl, _, _, rfl, rfl, _, _, rfl, ⟨A2, c2, rfl, l2, g2⟩, A3, c3, rfl, l3, g3⟩ := hK
  refine ⟨ad, A2, c2, A3, c3, e, hc 0 _ rfl, ?_, ?_, ?_, l2, g2, g3⟩
  · rw [← add_field _ _ 1 (by omega)]; exact hc 1 _ rfl
  · rw [← add_field _ _ 2 (by omega)]; exact hc 2 _ rfl
  · rw [← add_field _ _ 3 (by omega)]; exact hc 3 _ rfl
end Go.Proofs.YtmapdfommjcebaaGreat.Own
