/- Behind appends to a log, and a change: what stands on its disk, of whatever size. A packet as an argument. -/
import Derived.Test.YtmapdfommjcebaaGreatLog9
import Derived.Test.YtmapdfommjcebaaGreatFrs
namespace Go.Proofs.YtmapdfommjcebaaGreat.Own
open Go.ChangeShapes Go.WideShapes Go.ChangeAt Go.RowKit Go.Deep Go.Joins Go.Proofs.YtmapdfommjcebaaGreatW.PrintWords
/-- The log of WalRoom and its disk, behind i appends. -/
structure RoomIZ (Z : Nat) (x : Lg) (d : Dm) (r i : Nat) : Prop where
  gen : x.gen = 1
  area : x.area = 0
  stage : x.stage = 0
  tail : x.tail + r = Z
  sz : Sz d = Z
  all : x.all ≤ i
  q : d.q.length ≤ i
theorem RoomIZ.start : RoomIZ 29984 ⟨1, 0, 0, 0, 0, 0⟩ (Dm.new 60000).format 29984 0 := by
  have ho : (Dm.new 60000).Ok := Dm.ok_new (by omega) (by omega)
  have h1 : ((Dm.new 60000).write 0 (List.replicate (Dm.new 60000).b.length 0)).Ok := Dm.ok_write ho ⟨by omega, by omega, by rw [List.length_replicate]; omega⟩
  have hb : (Dm.new 60000).b.length = 60000 := List.length_replicate
  have h2 : (((Dm.new 60000).write 0 (List.replicate (Dm.new 60000).b.length 0)).write 16 (slotB 1 0)).Ok := Dm.ok_write h1 ⟨by omega, by omega, by rw [slotB_len]; show _ ≤ ((Dm.new 60000).b.length : Int); rw [hb]; omega⟩
  refine ⟨rfl, rfl, rfl, rfl, ?_, Nat.le_refl _, Nat.le_refl _⟩
  unfold Dm.format
  rw [Sz_flush h2]
  rw [Sz_write, Sz_write]
  unfold Sz
  rw [hb]
/-- What comes of an append. -/
theorem RoomIZ.app {Z : Nat} {x : Lg} {d : Dm} {r i : Nat} (h : RoomIZ Z x d r i) (b : List Int) :
    ((appE x d b).2 = 0 ∧ b.length + 9 ≤ r ∧ RoomIZ Z (appL x d b) (appD x d b) (r - b.length - 9) (i + 1)) ∨ ((appE x d b).2 = 3 ∧ RoomIZ Z (appL x d b) (appD x d b) r (i + 1)) ∨ ((appE x d b).2 = 5 ∧ r < b.length + 9 ∧ RoomIZ Z (appL x d b) (appD x d b) r (i + 1)) := by
  have h1 := h.tail
  have h2 := h.sz
  have h3 := h.all
  have h4 := h.q
  have keep : RoomIZ Z x d r (i + 1) := ⟨h.gen, h.area, h.stage, h.tail, h.sz, by omega, by omega⟩
  rcases appE_cases x d b with ⟨_, he⟩ | ⟨_, hs, _⟩ | ⟨_, _, hf, he⟩ | ⟨_, _, hf, he⟩
  · refine .inr (.inl ⟨by rw [he], ?_⟩)
    unfold appL appD
    rw [he]
    exact keep
  · exact absurd h.stage hs
  · refine .inr (.inr ⟨by rw [he], by omega, ?_⟩)
    unfold appL appD
    rw [he]
    exact keep
  · refine .inl ⟨by rw [he], by omega, ?_⟩
    unfold appL appD
    rw [he]
    exact ⟨h.gen, h.area, h.stage, by show x.tail + b.length + 9 + (r - b.length - 9) = Z; omega, by rw [if_pos rfl, Sz_write]; exact h2, by show x.all + 1 ≤ i + 1; omega, by rw [if_pos rfl]; simp only [Dm.write, List.length_append, List.length_singleton]; omega⟩
/-- What Begin answers behind a Sync. -/
theorem RoomIZ.begin {Z : Nat} {x : Lg} {d : Dm} {r i : Nat} (h : RoomIZ Z x d r i) (ho : d.Ok) (L : List (List Int)) :
    (Z < (framesOf (recsOf 1 L)).length ∧ begE { x with sure := x.all } d.flush L = 5) ∨
    ((framesOf (recsOf 1 L)).length ≤ Z ∧ begE { x with sure := x.all } d.flush L = 0 ∧ begL { x with sure := x.all } d.flush L = ⟨1, 0, x.tail, x.all, x.all, 1⟩ ∧ begP { x with sure := x.all } d.flush [] L = framesOf (recsOf 1 L)) := by
  have hs := Sz_flush ho
  rw [h.sz] at hs
  have hn : ¬ (x.stage ≠ 0 ∨ x.all < x.all) := by have := h.stage; omega
  by_cases hc : Z < (framesOf (recsOf 1 L)).length
  · refine .inl ⟨hc, ?_⟩
    unfold begE
    rw [if_neg hn, if_pos (by rw [hs]; exact hc)]
  · have he : begE { x with sure := x.all } d.flush L = 0 := by
      unfold begE
      rw [if_neg hn, if_neg (by rw [hs]; exact hc)]
    refine .inr ⟨by omega, he, ?_, ?_⟩
    · unfold begL
      rw [if_pos he, h.gen, h.area]
    · unfold begP
      rw [if_pos he]
/-- Behind appends: the second area has noughts alone. -/
structure WipIZ (Z : Nat) (x : Lg) (d : Dm) (r i : Nat) : Prop where
  room : RoomIZ Z x d r i
  byt : ByD d
  view : ∃ a0 t, View d (List.replicate 16 0) (slotB 1 0) a0 (List.replicate Z 0) t Z
theorem WipIZ.start : WipIZ 29984 ⟨1, 0, 0, 0, 0, 0⟩ (Dm.new 60000).format 29984 0 := by
  have ho : (Dm.new 60000).Ok := Dm.ok_new (by omega) (by omega)
  refine ⟨RoomIZ.start, (ByD.new 60000).format ho, ?_⟩
  obtain ⟨t, h⟩ := View.format ho
  have hs : Sz (Dm.new 60000) = 29984 := by
    unfold Sz
    rw [show (Dm.new 60000).b.length = 60000 from List.length_replicate]
  rw [hs] at h
  exact ⟨_, t, h⟩
theorem WipIZ.app {Z : Nat} {x : Lg} {d : Dm} {r i : Nat} (h : WipIZ Z x d r i) (b : List Int) (hb : Byt b) : ∃ r', r' ≤ r ∧ WipIZ Z (appL x d b) (appD x d b) r' (i + 1) := by
  have hr := h.room
  rcases hr.app b with ⟨he, hle, hn⟩ | ⟨he, hn⟩ | ⟨he, _, hn⟩
  · refine ⟨_, by omega, hn, ?_, ?_⟩
    · unfold appD
      rw [if_pos he]
      exact h.byt.write _ (Byt.frame _ hb)
    · obtain ⟨a0, t, hv⟩ := h.view
      unfold appD
      rw [if_pos he, hr.area]
      refine ⟨_, t, hv.area0 x.tail _ ?_⟩
      rw [frameR_len]
      have := hr.tail
      show x.tail + (b.length + 9) ≤ Z
      omega
  · refine ⟨r, Nat.le_refl _, hn, ?_, ?_⟩
    · unfold appD
      rw [if_neg (by omega)]
      exact h.byt
    · unfold appD
      rw [if_neg (by omega)]
      exact h.view
  · refine ⟨r, Nat.le_refl _, hn, ?_, ?_⟩
    · unfold appD
      rw [if_neg (by omega)]
      exact h.byt
    · unfold appD
      rw [if_neg (by omega)]
      exact h.view
/-- Nothing is appended. -/
theorem WipIZ.more {Z : Nat} {x : Lg} {d : Dm} {r i : Nat} (h : WipIZ Z x d r i) : WipIZ Z x d r (i + 1) :=
  ⟨⟨h.room.gen, h.room.area, h.room.stage, h.room.tail, h.room.sz, by have := h.room.all; omega, by have := h.room.q; omega⟩, h.byt, h.view⟩
/-- Behind the five steps of a change. -/
theorem run_viewZ {Z : Nat} {d : Dm} {a0 t pb : List Int} {tail all : Nat} (h : View d (List.replicate 16 0) (slotB 1 0) a0 (List.replicate Z 0) t Z) (hp : pb.length ≤ Z) :
    View (runS pb 5 (⟨1, 0, tail, all, all, 1⟩, d)).2 (slotB 2 1) (slotB 1 0) (List.replicate Z 0) (pb ++ List.replicate (Z - pb.length) 0) t Z := by
  have e0 := h.lay.m0
  have z0 : ∀ a : List Int, a.length = Z → splice a 0 (List.replicate Z 0) = List.replicate Z 0 := fun a ha => splice_all _ _ (by rw [List.length_replicate, ha])
  have v1 := h.flush.area1 0 (List.replicate Z 0) (by rw [List.length_replicate]; omega)
  rw [z0 _ (by rw [List.length_replicate])] at v1
  have v2 := v1.flush.area1 0 pb (by omega)
  have e2 : splice (List.replicate Z (0 : Int)) 0 pb = pb ++ List.replicate (Z - pb.length) 0 := by
    rw [splice_zero, List.drop_replicate]
  rw [e2] at v2
  have v3 := v2.flush.slot0 (slotB 2 1) (slotB_len 2 1)
  have v4 := v3.flush.area0 0 (List.replicate Z 0) (by rw [List.length_replicate]; omega)
  rw [z0 _ e0] at v4
  have v5 := v4.flush
  have s0 := h.sz
  have s1 := v1.sz
  have s3 := v3.sz
  have f0 := h.flush.sz
  have f1 := v1.flush.sz
  have f3 := v3.flush.sz
  rw [plc_eq (f0.trans s0.symm)] at v1 v2 v3 v4 v5 s1 s3 f1 f3
  rw [plc_eq (f1.trans s1.symm)] at v2 v3 v4 v5 s3 f3
  rw [plc_eq (f3.trans s3.symm)] at v4 v5
  have e : (runS pb 5 (⟨1, 0, tail, all, all, 1⟩, d)).2 = ((((d.flush.write (plc d 1 0) (List.replicate (Sz d) 0)).flush.write (plc (d.flush.write (plc d 1 0) (List.replicate (Sz d) 0)) 1 0) pb).flush.write 0 (slotB 2 1)).flush.write
      (plc (((d.flush.write (plc d 1 0) (List.replicate (Sz d) 0)).flush.write (plc (d.flush.write (plc d 1 0) (List.replicate (Sz d) 0)) 1 0) pb).flush.write 0 (slotB 2 1)) 0 0)
      (List.replicate (Sz (((d.flush.write (plc d 1 0) (List.replicate (Sz d) 0)).flush.write (plc (d.flush.write (plc d 1 0) (List.replicate (Sz d) 0)) 1 0) pb).flush.write 0 (slotB 2 1))) 0)).flush := rfl
  rw [e]
  rw [s0]
  rw [s3]
  exact v5
theorem frames_le {L : List (List Int)} (h : ∀ p ∈ L, p.length ≤ 1000) : (framesOf (recsOf 1 L)).length ≤ L.length * 1009 := by
  have key : ∀ i, i ≤ L.length → (framesOf (recsOf 1 (L.take i))).length ≤ i * 1009 := by
    intro i
    induction i with
    | zero => intro _; exact Nat.le_refl 0
    | succ i ih =>
      intro hi
      have := ih (by omega)
      rw [frames_take (by omega)]
      have := h L[i] (List.getElem_mem _)
      omega
  have := key L.length (Nat.le_refl _)
  rwa [List.take_length] at this
end Go.Proofs.YtmapdfommjcebaaGreat.Own
namespace Go.Proofs.YtmapdfommjcebaaGreat.Own
open Go.ChangeShapes Go.WideShapes Go.ChangeAt Go.RowKit Go.Deep Go.Joins
open Go.Proofs.YtmapdfommjcebaaGreatW.PrintWords
section
variable {H : Type} {enc : TypeId × Value → H} {P : Program} {w : World} {base : Nat} {spare : Nat → Bool} {held : Bool}
theorem opens_b {t : TypeId} (ht : P.underlying t = some .bool) : Opens enc P w base spare held t Kd.bool (fun _ => True) := by
  intro fuel cs y h
  obtain ⟨b, rfl, _⟩ := DataW.trod_bool ht h
  exact ⟨b, rfl, trivial⟩
theorem opens_u64 {t : TypeId} (ht : P.underlying t = some (.int .u64)) : Opens enc P w base spare held t (Kd.int .u64) (fun x => 0 ≤ x ∧ x ≤ 18446744073709551615) := by
  intro fuel cs y h
  obtain ⟨x, h1, h2⟩ := opens_int ht fuel cs y h
  refine ⟨x, h1, ?_⟩
  simp [Lit.wf, IntKind.min, IntKind.max, IntKind.signed, IntKind.bits] at h2
  omega
theorem trod5 {t : TypeId} {f0 f1 f2 f3 f4 : Field} {fuel : Nat} {cs : List Value} {x : DataW H × List MemPlace} (ht : P.underlying t = some (.struct #[f0, f1, f2, f3, f4])) (h : DataW.trod enc P w base spare held fuel t cs = some x) :
    ∃ y0 y1 y2 y3 y4 n, cs.length = P.cellsOf t ∧ DataW.trod enc P w base spare held n f0.type ((cs.drop f0.offset).take (P.cellsOf f0.type)) = some y0 ∧
      DataW.trod enc P w base spare held n f1.type ((cs.drop f1.offset).take (P.cellsOf f1.type)) = some y1 ∧ DataW.trod enc P w base spare held n f2.type ((cs.drop f2.offset).take (P.cellsOf f2.type)) = some y2 ∧
      DataW.trod enc P w base spare held n f3.type ((cs.drop f3.offset).take (P.cellsOf f3.type)) = some y3 ∧ DataW.trod enc P w base spare held n f4.type ((cs.drop f4.offset).take (P.cellsOf f4.type)) = some y4 := by
  obtain ⟨xs, n, _, rfl, hl, hlen, hf⟩ := DataW.trod_struct ht h
  match xs, hlen with
  | [y0, y1, y2, y3, y4], _ => exact ⟨y0, y1, y2, y3, y4, n, hl, by simpa using hf 0 f0 rfl, by simpa using hf 1 f1 rfl, by simpa using hf 2 f2 rfl, by simpa using hf 3 f3 rfl, by simpa using hf 4 f4 rfl⟩
theorem opens5 {t : TypeId} {f0 f1 f2 f3 f4 : Field} {α0 α1 α2 α3 α4 : Type} {d0 : Kd α0} {d1 : Kd α1} {d2 : Kd α2} {d3 : Kd α3} {d4 : Kd α4} {Q0 : α0 → Prop} {Q1 : α1 → Prop} {Q2 : α2 → Prop} {Q3 : α3 → Prop} {Q4 : α4 → Prop}
    (ht : P.underlying t = some (.struct #[f0, f1, f2, f3, f4])) (hone : oneCellFields P #[f0, f1, f2, f3, f4] = true) (hC : P.cellsOf t = 5)
    (h0 : Opens enc P w base spare held f0.type d0 Q0) (h1 : Opens enc P w base spare held f1.type d1 Q1) (h2 : Opens enc P w base spare held f2.type d2 Q2) (h3 : Opens enc P w base spare held f3.type d3 Q3) (h4 : Opens enc P w base spare held f4.type d4 Q4) :
    Opens enc P w base spare held t (Kd.pair d0 (Kd.pair d1 (Kd.pair d2 (Kd.pair d3 d4)))) (fun x => Q0 x.1 ∧ Q1 x.2.1 ∧ Q2 x.2.2.1 ∧ Q3 x.2.2.2.1 ∧ Q4 x.2.2.2.2) := by
  intro fuel cs y h
  obtain ⟨y0, y1, y2, y3, y4, n, hl, g0, g1, g2, g3, g4⟩ := trod5 ht h
  rw [hC] at hl
  obtain ⟨o0, k0⟩ := hone_of hone 0 f0 rfl
  obtain ⟨o1, k1⟩ := hone_of hone 1 f1 rfl
  obtain ⟨o2, k2⟩ := hone_of hone 2 f2 rfl
  obtain ⟨o3, k3⟩ := hone_of hone 3 f3 rfl
  obtain ⟨o4, k4⟩ := hone_of hone 4 f4 rfl
  match cs, hl with
  | [a, b, c, d, e], _ =>
    rw [o0, k0] at g0
    rw [o1, k1] at g1
    rw [o2, k2] at g2
    rw [o3, k3] at g3
    rw [o4, k4] at g4
    obtain ⟨x0, K0, q0⟩ := h0 _ _ _ g0
    obtain ⟨x1, K1, q1⟩ := h1 _ _ _ g1
    obtain ⟨x2, K2, q2⟩ := h2 _ _ _ g2
    obtain ⟨x3, K3, q3⟩ := h3 _ _ _ g3
    obtain ⟨x4, K4, q4⟩ := h4 _ _ _ g4
    exact ⟨(x0, x1, x2, x3, x4), ⟨[a], [b, c, d, e], rfl, K0, [b], [c, d, e], rfl, K1, [c], [d, e], rfl, K2, [d], [e], rfl, K3, K4⟩, q0, q1, q2, q3, q4⟩
end
/-- A packet. -/
abbrev Pkt := Bool × Int × Int × Int × List Int
def k35 : Kd Pkt := Kd.pair Kd.bool (Kd.pair (Kd.int .i64) (Kd.pair (Kd.int .i64) (Kd.pair (Kd.int .u64) (Kd.slice 5 (Kd.int .u8)))))
def Q35 (x : Pkt) : Prop := True ∧ (-9223372036854775808 ≤ x.2.1 ∧ x.2.1 ≤ 9223372036854775807) ∧ (-9223372036854775808 ≤ x.2.2.1 ∧ x.2.2.1 ≤ 9223372036854775807) ∧ (0 ≤ x.2.2.2.1 ∧ x.2.2.2.1 ≤ 18446744073709551615) ∧ ∀ z ∈ x.2.2.2.2, 0 ≤ z ∧ z < 256
theorem opens35 {H : Type} {enc : TypeId × Value → H} {w : World} {base : Nat} {spare : Nat → Bool} {held : Bool} : Opens enc Tryz.prog w base spare held 35 k35 Q35 :=
  opens5 Tryz.underlying35 (by kernel_rfl) (by kernel_rfl) (opens_b Tryz.underlying4) (opens_i64 Tryz.underlying3) (opens_i64 Tryz.underlying3) (opens_u64 Tryz.underlying33) (opens_bytes Tryz.underlying29 Tryz.underlying5 (by kernel_rfl) 5)
theorem at35 {w : World} {A : Option Addr} {n : Nat} {xs : List Pkt} (h : Kd.C k35 w A n xs) (i : Nat) (hi : i < xs.length) (hn : n = xs.length) : ∃ ad A3 c3, A = some ad ∧ w.cell? (ad.add (i * 5)) = some (.bool xs[i].1) ∧
    w.cell? ⟨(ad.add (i * 5)).block, (ad.add (i * 5)).off + 1, none⟩ = some (.int .i64 xs[i].2.1) ∧ w.cell? ⟨(ad.add (i * 5)).block, (ad.add (i * 5)).off + 2, none⟩ = some (.int .i64 xs[i].2.2.1) ∧
    w.cell? ⟨(ad.add (i * 5)).block, (ad.add (i * 5)).off + 3, none⟩ = some (.int .u64 xs[i].2.2.2.1) ∧ w.cell? ⟨(ad.add (i * 5)).block, (ad.add (i * 5)).off + 4, none⟩ = some (.slice A3 xs[i].2.2.2.2.length c3) ∧ xs[i].2.2.2.2.length ≤ c3 ∧ (Kd.int .u8).C w A3 xs[i].2.2.2.2.length xs[i].2.2.2.2 := by
  obtain ⟨ad, c, e, _, hK, hc0⟩ := Kd.C_get h (false, 0, 0, 0, []) (i : Int) (by omega) (by omega)
  have e0 : xs.getD (i : Int).toNat (false, 0, 0, 0, []) = xs[i] := by
    rw [Int.toNat_natCast]
    simp [List.getD_eq_getElem?_getD, List.getElem?_eq_getElem hi]
  rw [e0] at hK
  have hc : ∀ j u, c[j]? = some u → w.cell? (ad.add (i * 5 + j)) = some u := hc0
  obtain ⟨_, _, rfl, rfl, _, _, rfl, rfl, _, _, rfl, rfl, _, _, rfl, rfl, A3, c3, rfl, l3, g3⟩ := hK
  refine ⟨ad, A3, c3, e, hc 0 _ rfl, ?_, ?_, ?_, ?_, l3, g3⟩
  · rw [← add_field _ _ 1 (by omega)]; exact hc 1 _ rfl
  · rw [← add_field _ _ 2 (by omega)]; exact hc 2 _ rfl
  · rw [← add_field _ _ 3 (by omega)]; exact hc 3 _ rfl
  · rw [← add_field _ _ 4 (by omega)]; exact hc 4 _ rfl
end Go.Proofs.YtmapdfommjcebaaGreat.Own
