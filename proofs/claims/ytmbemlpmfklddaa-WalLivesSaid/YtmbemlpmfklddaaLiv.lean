/- A log's life through crashes and openings, on lists: what holds of it and of its disk behind each call; behind a crash it is opened. -/
import Derived.Test.YtmbemlpmfklddaaBeg
import Derived.Test.YtmbemlpmfklddaaRfC
namespace Go.Proofs.Ytmbemlpmfklddaa.Own
open Go.RowKit
/-! ### A slot that was torn, maybe more than once -/
theorem splice_twice {b S : List Int} {k k' : Nat} (_hb : b.length = 16) (hS : S.length = 16) (hk : k ≤ 16) (hk' : k' ≤ 16) : splice (splice b 0 (S.take k)) 0 (S.take k') = splice b 0 (S.take (max k k')) := by
  have l1 : (S.take k).length = k := by rw [List.length_take]; omega
  have l2 : (S.take k').length = k' := by rw [List.length_take]; omega
  have l3 : (S.take (max k k')).length = max k k' := by rw [List.length_take]; omega
  rw [splice_zero, splice_zero, splice_zero, l1, l2, l3]
  by_cases h : k' ≤ k
  · rw [Nat.max_eq_left h, List.drop_append_of_le_length (by omega), ← List.append_assoc]
    congr 1
    have := List.take_append_drop k' (S.take k)
    rw [List.take_take, Nat.min_eq_left h] at this
    exact this
  · rw [Nat.max_eq_right (by omega), List.drop_append, List.drop_of_length_le (by omega), List.nil_append, List.drop_drop, l1]
    congr 2
    omega
/-- The other slot: an elder one, of which the first bytes may be of the next. -/
def OldT (so : List Int) (gen : Int) (na : Nat) : Prop := ∃ b k, Old b gen ∧ k < 16 ∧ so = splice b 0 ((slotB (gen + 1) (na : Int)).take k)
section
variable {so : List Int} {gen : Int} {na : Nat}
theorem Old.torn0 (h : Old so gen) : OldT so gen na := ⟨so, 0, h, by omega, by rw [List.take_zero, splice_nil]⟩
theorem OldT.len (h : OldT so gen na) : so.length = 16 := by
  obtain ⟨b, k, h, hk, rfl⟩ := h
  have := h.tail.1
  rw [splice_length (by rw [List.length_take, slotB_len]; omega)]
  exact this
theorem OldT.told (h : OldT so gen na) (h1 : 1 ≤ gen) (hg : gen < 4294967295) (i : Nat) : ∃ g' a', toldR so i = (g', a') ∧ g' < gen := by
  obtain ⟨b, k, ho, hk, rfl⟩ := h
  rcases torn_slot (na := na) i ho h1 hg k with ht | ht
  · have := congrArg List.length ht
    rw [List.length_take, slotB_len] at this
    omega
  · exact ht
theorem OldT.torn (h : OldT so gen na) (k' : Nat) : ((slotB (gen + 1) (na : Int)).take k' = slotB (gen + 1) (na : Int)) ∨ OldT (splice so 0 ((slotB (gen + 1) (na : Int)).take k')) gen na := by
  by_cases hk' : 16 ≤ k'
  · exact .inl (List.take_of_length_le (by rw [slotB_len]; omega))
  · obtain ⟨b, k, ho, hk, rfl⟩ := h
    exact .inr ⟨b, max k k', ho, by omega, splice_twice ho.tail.1 (slotB_len _ _) (by omega) (by omega)⟩
end
/-! ### Frames' bytes, cut -/
theorem Fb_pre (P R : List (List Int)) (j : Nat) : Fb P R = Fb P (R.take j) ++ framesOf (recsOf 2 (R.drop j)) := by
  unfold Fb Fr
  rw [← framesOf_append, List.append_assoc]
  congr 2
  unfold recsOf
  rw [← List.map_append, List.take_append_drop]
theorem Fb_drop (P R : List (List Int)) (j : Nat) : Fb P (R.take j) ++ (Fb P R).drop (Fb P (R.take j)).length = Fb P R := by
  conv => lhs; rw [Fb_pre P R j]
  rw [List.drop_left, ← Fb_pre]
theorem Fb_parts (P R : List (List Int)) : (Fb P []).length ≤ (Fb P R).length := by
  have := Fb_pre P R 0
  rw [List.take_zero] at this
  rw [this, List.length_append]
  omega
/-- The disk of a log: at home, all written or what was appended waits; at home, the noughts of an opening wait ahead of it; the other area turns; the slot turns. -/
def LImg (x : Lg) (d : Dm) (pb : List Int) (P R : List (List Int)) (z : Nat) : Prop :=
  ∃ (gi : Nat) (so ao r : List Int), gi ≤ 1 ∧ x.gen % 2 = gi ∧
    ((x.stage = 0 ∧ OldT so x.gen (1 - x.area) ∧ ∃ m, (Fb P []).length ≤ m ∧ m ≤ (Fb P R).length ∧ (x.all ≤ x.sure → m = (Fb P R).length) ∧ Wait d (32 + x.area * z + m) ((Fb P R).drop m) ∧ Img d.b (slotB x.gen x.area) so ((Fb P R).take m ++ Zs (z - m)) ao r gi x.area z) ∨
     ((x.stage = 0 ∨ x.stage = 1) ∧ OldT so x.gen (1 - x.area) ∧ ∃ (j : Nat) (ac : List Int), j ≤ R.length ∧ (x.all ≤ x.sure → j = R.length) ∧ Good ac (Fr P (R.take j)) ∧
        pend d.q = pendOf ((32 + x.area * z + (Fb P (R.take j)).length : Nat), Zs (z - (Fb P (R.take j)).length)) ++ pendOf ((32 + x.area * z + (Fb P (R.take j)).length : Nat), (Fb P R).drop (Fb P (R.take j)).length) ∧
        Img d.b (slotB x.gen x.area) so ac ao r gi x.area z) ∨
     ((x.stage ≠ 0 ∧ x.stage ≠ 4) ∧ OldT so x.gen (1 - x.area) ∧ ∃ l, Wait d (32 + (1 - x.area) * z) l ∧ l.length ≤ z ∧ (x.stage = 2 → splice ao 0 l = Zs z) ∧ (x.stage = 3 → splice ao 0 l = pb ++ Zs (z - pb.length)) ∧
        Img d.b (slotB x.gen x.area) so (Fb P R ++ Zs (z - (Fb P R).length)) ao r gi x.area z) ∨
     (x.stage = 4 ∧ ao = pb ++ Zs (z - pb.length) ∧ Img d.b (slotB x.gen x.area) so (Fb P R ++ Zs (z - (Fb P R).length)) ao r gi x.area z ∧
        ((pend d.q = [] ∧ so = slotB (x.gen + 1) ((1 - x.area : Nat) : Int)) ∨ (OldT so x.gen (1 - x.area) ∧ Wait d ((1 - gi) * 16) (slotB (x.gen + 1) ((1 - x.area : Nat) : Int))))))
/-- What holds of a log behind i calls, crashes and openings among them. -/
structure LivI (x : Lg) (d : Dm) (pb : List Int) (P N R : List (List Int)) (z i : Nat) : Prop where
  ok : d.Ok
  sz : Sz d = z
  byt : ByD d
  bpb : Byt pb
  q : d.q.length ≤ i + 1
  g0 : 1 ≤ x.gen
  g1 : x.gen ≤ i + 1
  area : x.area ≤ 1
  stage : x.stage ≤ 5
  tail : x.tail = (Fb P R).length
  fit : (Fb P R).length ≤ z
  alli : x.all ≤ i
  s1 : x.sure ≤ x.all
  s2 : x.stage ≠ 0 → x.all ≤ x.sure
  okP : ∀ p ∈ P, p.length ≤ 1000
  okN : ∀ p ∈ N, p.length ≤ 1000
  okR : ∀ p ∈ R, p.length ≤ 1800
  parts : 1 ≤ x.stage → x.stage ≤ 4 → pb = framesOf (recsOf 1 N) ∧ pb.length ≤ z
  img : LImg x d pb P R z
section
variable {x : Lg} {d : Dm} {pb : List Int} {P N R : List (List Int)} {z i : Nat}
theorem LivI.more (h : LivI x d pb P N R z i) : LivI x d pb P N R z (i + 1) :=
  { h with q := Nat.le_succ_of_le h.q, g1 := by have := h.g1; push_cast; omega, alli := Nat.le_succ_of_le h.alli }
theorem LivI.start {n : Nat} (h1 : 64 ≤ n) (h2 : n ≤ 262144) : LivI ⟨1, 0, 0, 0, 0, 0⟩ (Dm.new n).format [] [] [] [] (Sz (Dm.new n)) 0 := by
  have ho : (Dm.new n).Ok := Dm.ok_new h1 h2
  obtain ⟨t, h⟩ := View.format ho
  refine ⟨h.ok, h.sz, (ByD.new n).format ho, Byt.nil, Nat.zero_le _, by simp, by simp, by simp, by simp, rfl, Nat.zero_le _, Nat.le_refl _, Nat.le_refl _, fun h => absurd rfl h, by simp, by simp, by simp, fun h => absurd h (by simp), ?_⟩
  refine ⟨1, List.replicate 16 0, List.replicate (Sz (Dm.new n)) 0, t, by omega, rfl, .inl ⟨rfl, Old.torn0 (.inl ⟨rfl, rfl⟩), 0, Nat.le_refl _, Nat.zero_le _, fun _ => rfl, ⟨rfl, ?_⟩, h.lay⟩⟩
  have := h.ok.lo
  show 32 + 0 * _ + 0 + 0 ≤ _
  omega
theorem pend_now (ho : d.Ok) {p q : Nat} {l m : List Int} (h : pend d.q = pendOf ((p : Nat), l) ++ pendOf ((q : Nat), m)) (hp : p + l.length ≤ d.b.length) (hq : q + m.length ≤ d.b.length) : d.now = splice (splice d.b p l) q m := by
  have e1 : putAll d.b (pendOf ((p : Int), l)) = splice d.b p l := by
    have := putAll_pendOf (b := d.b) (w := ((p : Int), l)) (by simp only [Int.toNat_natCast]; omega)
    simpa using this
  have e2 : putAll (splice d.b p l) (pendOf ((q : Int), m)) = splice (splice d.b p l) q m := by
    have := putAll_pendOf (b := splice d.b p l) (w := ((q : Int), m)) (by simp only [Int.toNat_natCast]; rw [splice_length hp]; omega)
    simpa using this
  rw [Dm.now_eq ho, h, putAll_append, e1, e2]
theorem pend_settle {p q : Nat} {l m : List Int} (h : pend d.q = pendOf ((p : Nat), l) ++ pendOf ((q : Nat), m)) (hp : p + l.length ≤ d.b.length) (hq : q + m.length ≤ d.b.length) (last : Int) :
    (d.settle last).b = splice (splice d.b p (l.take last.toNat)) q (m.take (last.toNat - l.length)) := by
  have hl : (l.take last.toNat).length ≤ l.length := by rw [List.length_take]; omega
  have hm : (m.take (last.toNat - l.length)).length ≤ m.length := by rw [List.length_take]; omega
  have e1 : putAll d.b (pendOf ((p : Int), l.take last.toNat)) = splice d.b p (l.take last.toNat) := by
    have := putAll_pendOf (b := d.b) (w := ((p : Int), l.take last.toNat)) (by simp only [Int.toNat_natCast]; omega)
    simpa using this
  have e2 : putAll (splice d.b p (l.take last.toNat)) (pendOf ((q : Int), m.take (last.toNat - l.length))) = splice (splice d.b p (l.take last.toNat)) q (m.take (last.toNat - l.length)) := by
    have := putAll_pendOf (b := splice d.b p (l.take last.toNat)) (w := ((q : Int), m.take (last.toNat - l.length))) (by simp only [Int.toNat_natCast]; rw [splice_length (by omega)]; omega)
    simpa using this
  unfold Dm.settle
  simp only
  rw [h, List.take_append, pendOf_length, pendOf_take, pendOf_take, putAll_append]
  simp only
  rw [e1, e2]
/-- An area that tells just A, noughts laid behind it, and more laid over these. -/
theorem good_over {a : List Int} {A : List Rec} (h : Good a A) (t : List Int) (ht : (framesOf A).length + t.length ≤ a.length) :
    splice (splice a (framesOf A).length (Zs (a.length - (framesOf A).length))) (framesOf A).length t = framesOf A ++ t ++ Zs (a.length - (framesOf A).length - t.length) := by
  obtain ⟨u, rfl, _, _⟩ := h
  have e := splice_tail (framesOf A) u 0 (Zs ((framesOf A ++ u).length - (framesOf A).length))
  rw [Nat.add_zero] at e
  have hl : (framesOf A ++ u).length - (framesOf A).length = u.length := by rw [List.length_append]; omega
  rw [hl] at e ⊢
  rw [e, splice_all _ _ (by simp), splice_fill]
/-- What is read now. -/
theorem LivI.now (h : LivI x d pb P N R z i) :
    ∃ (gi : Nat) (so ao r : List Int), gi ≤ 1 ∧ x.gen % 2 = gi ∧ Img d.now (slotB x.gen x.area) so (Fb P R ++ Zs (z - (Fb P R).length)) ao r gi x.area z ∧ (x.stage ≠ 4 → OldT so x.gen (1 - x.area)) ∧
      (x.stage = 2 → ao = Zs z) ∧ (x.stage = 3 → ao = pb ++ Zs (z - pb.length)) ∧ (x.stage = 4 → ao = pb ++ Zs (z - pb.length) ∧ so = slotB (x.gen + 1) ((1 - x.area : Nat) : Int)) := by
  obtain ⟨gi, so, ao, r, hg, hgi, hc⟩ := h.img
  have hfit := h.fit
  have har := h.area
  rcases hc with ⟨hs, hold, m, _, hm, _, hw, him⟩ | ⟨hs, hold, j, ac, hj, _, hgd, hpe, him⟩ | ⟨hs, hold, l, hw, hl, h2, h3, him⟩ | ⟨hs, hao, him, hso⟩
  · refine ⟨gi, so, ao, r, hg, hgi, ?_, fun _ => hold, fun h => by omega, fun h => by omega, fun h => by omega⟩
    have hll : ((Fb P R).drop m).length = (Fb P R).length - m := List.length_drop
    have hcur := him.cur har (p := m) (l := (Fb P R).drop m) (by omega)
    have hml : ((Fb P R).take m).length = m := by rw [List.length_take]; omega
    have hsp := splice_fill ((Fb P R).take m) ((Fb P R).drop m) (z - m)
    rw [hml, hll, List.take_append_drop] at hsp
    rw [hsp] at hcur
    rw [hw.now h.ok, show z - (Fb P R).length = z - m - ((Fb P R).length - m) by omega]
    exact hcur
  · refine ⟨gi, so, ao, r, hg, hgi, ?_, fun _ => hold, fun h => by omega, fun h => by omega, fun h => by omega⟩
    obtain ⟨t0, ht0⟩ : ∃ t0, t0 = (Fb P (R.take j)).length := ⟨_, rfl⟩
    have hlens := him.lens hg har
    have hlong := him.long
    have haz : x.area * z ≤ 1 * z := Nat.mul_le_mul_right _ har
    have htl : t0 ≤ (Fb P R).length := by rw [ht0, Fb_pre P R j, List.length_append]; omega
    have hdl : ((Fb P R).drop t0).length = (Fb P R).length - t0 := List.length_drop
    have hover := good_over hgd ((Fb P R).drop t0) (by show (Fb P (R.take j)).length + _ ≤ _; rw [← ht0, hlens.2.2.1]; omega)
    have hsame : framesOf (Fr P (R.take j)) = Fb P (R.take j) := rfl
    have hjoin := Fb_drop P R j
    rw [← ht0] at hjoin hpe
    rw [hsame, ← ht0, hlens.2.2.1, hjoin] at hover
    have c1 := him.cur har (p := t0) (l := Zs (z - t0)) (by rw [List.length_replicate]; omega)
    have c2 := c1.cur har (p := t0) (l := (Fb P R).drop t0) (by omega)
    rw [hover, hdl, show z - t0 - ((Fb P R).length - t0) = z - (Fb P R).length by omega] at c2
    rw [pend_now h.ok hpe (by rw [List.length_replicate]; omega) (by omega)]
    exact c2
  · have hoth := him.oth har (p := 0) (l := l) (by omega)
    rw [Nat.add_zero, ← hw.now h.ok] at hoth
    exact ⟨gi, so, splice ao 0 l, r, hg, hgi, hoth, fun _ => hold, h2, h3, fun h => absurd h hs.2⟩
  · rcases hso with ⟨hp, rfl⟩ | ⟨hold, hw⟩
    · have hn : d.now = d.b := by rw [Dm.now_eq h.ok, hp]; rfl
      exact ⟨gi, _, ao, r, hg, hgi, by rw [hn]; exact him, fun h => absurd hs h, fun h => by omega, fun h => by omega, fun _ => ⟨hao, rfl⟩⟩
    · have hsl := him.slot hg (l := slotB (x.gen + 1) ((1 - x.area : Nat) : Int)) (by rw [slotB_len]; omega)
      have hlens := him.lens hg har
      rw [splice_all so _ (by rw [slotB_len]; exact hlens.2.1.symm), ← hw.now h.ok] at hsl
      exact ⟨gi, _, ao, r, hg, hgi, hsl, fun h => absurd hs h, fun h => by omega, fun h => by omega, fun _ => ⟨hao, rfl⟩⟩
end
end Go.Proofs.Ytmbemlpmfklddaa.Own
namespace Go.Proofs.Ytmbemlpmfklddaa.Own
open Go.RowKit
section
variable {x : Lg} {d : Dm} {pb : List Int} {P N R : List (List Int)} {z i : Nat}
/-- Append. -/
theorem LivI.app (h : LivI x d pb P N R z i) (b : List Int) (hb : Byt b) : ∃ R', LivI (appL x d b) (appD x d b) pb P N R' z (i + 1) := by
  rcases appE_cases x d b with ⟨_, he⟩ | ⟨_, _, he⟩ | ⟨_, _, _, he⟩ | ⟨hlen, hs, hf, he⟩
  · refine ⟨R, ?_⟩
    unfold appL appD
    rw [he]
    exact h.more
  · refine ⟨R, ?_⟩
    unfold appL appD
    rw [he]
    exact h.more
  · refine ⟨R, ?_⟩
    unfold appL appD
    rw [he]
    exact h.more
  · refine ⟨R ++ [b], ?_⟩
    have hz := h.sz
    have ht := h.tail
    have hfl : (frameR (2, b)).length = b.length + 9 := frameR_len
    have hsa := size_ok h.ok
    have haz : x.area * z ≤ 1 * z := Nat.mul_le_mul_right _ h.area
    rw [hz] at hf hsa
    have hp : plc d x.area x.tail = 32 + x.area * z + (Fb P R).length := by
      unfold plc
      rw [hz, ht]
    have hF : (Fb P (R ++ [b])).length = (Fb P R).length + (b.length + 9) := by rw [Fb_snoc, List.length_append, hfl]
    unfold appL appD
    rw [he, if_pos rfl, if_pos rfl, hp]
    refine ⟨Dm.ok_write h.ok ⟨by omega, by omega, ?_⟩, hz, h.byt.write _ (Byt.frame _ hb), h.bpb, ?_, h.g0, ?_, h.area, h.stage, ?_, ?_, ?_, ?_, fun h2 => absurd hs h2, h.okP, h.okN, ?_, h.parts, ?_⟩
    · rw [hfl]
      omega
    · have := h.q
      simp only [Dm.write, List.length_append, List.length_singleton]
      omega
    · have := h.g1
      push_cast
      omega
    · show x.tail + b.length + 9 = _
      omega
    · omega
    · show x.all + 1 ≤ i + 1
      have := h.alli
      omega
    · show x.sure ≤ x.all + 1
      have := h.s1
      omega
    · intro r hr
      rcases List.mem_append.1 hr with hr | hr
      · exact h.okR r hr
      · rw [List.mem_singleton.1 hr]
        exact hlen.2
    · have hs1 := h.s1
      obtain ⟨gi, so, ao, r, hg, hgi, hc⟩ := h.img
      rcases hc with ⟨_, hold, m, hfs, hm, _, hw, him⟩ | ⟨_, hold, j, ac, hj, _, hgd, hpe, him⟩ | ⟨hs2, _⟩ | ⟨hs4, _⟩
      · have hll : ((Fb P R).drop m).length = (Fb P R).length - m := List.length_drop
        refine ⟨gi, so, ao, r, hg, hgi, .inl ⟨hs, hold, m, hfs, by omega, fun h => ?_, ?_, ?_⟩⟩
        · have h' : x.all + 1 ≤ x.sure := h
          omega
        · rw [Fb_snoc, List.drop_append_of_le_length hm]
          exact hw.more _ _ (by omega) (by rw [hfl]; omega)
        · rw [Fb_snoc, List.take_append_of_le_length hm]
          exact him
      · refine ⟨gi, so, ao, r, hg, hgi, .inr (.inl ⟨.inl hs, hold, j, ac, by rw [List.length_append]; omega, fun h => ?_, ?_, ?_, him⟩)⟩
        · have h' : x.all + 1 ≤ x.sure := h
          omega
        · rw [List.take_append_of_le_length hj]
          exact hgd
        · have htl : (Fb P (R.take j)).length ≤ (Fb P R).length := by rw [Fb_pre P R j, List.length_append]; omega
          have hdl : ((Fb P R).drop (Fb P (R.take j)).length).length = (Fb P R).length - (Fb P (R.take j)).length := List.length_drop
          rw [List.take_append_of_le_length hj, Fb_snoc, List.drop_append_of_le_length htl]
          simp only [Dm.write]
          rw [pend_append, hpe, pendOf_append, List.append_assoc, hdl]
          congr 2
          rw [show 32 + x.area * z + (Fb P (R.take j)).length + ((Fb P R).length - (Fb P (R.take j)).length) = 32 + x.area * z + (Fb P R).length by omega]
          simp [pend]
      · exact absurd hs hs2.1
      · omega
/-- Behind a flush, at home. -/
theorem LivI.home (h : LivI x d pb P N R z i) {y : Lg} {d' : Dm} (hq : d'.q = []) (hb : d'.b = d.now) (e1 : y.gen = x.gen) (e2 : y.area = x.area) (hy : y.stage = 0) (hx : x.stage ≠ 4) : LImg y d' pb P R z := by
  obtain ⟨gi, so, ao, r, hg, hgi, him, hold, _⟩ := h.now
  have hlong := him.long
  have haz : x.area * z ≤ 1 * z := Nat.mul_le_mul_right _ h.area
  have hfit := h.fit
  refine ⟨gi, so, ao, r, hg, by rw [e1]; exact hgi, .inl ⟨hy, by rw [e1, e2]; exact hold hx, (Fb P R).length, Fb_parts P R, Nat.le_refl _, fun _ => rfl, ?_, ?_⟩⟩
  · rw [List.drop_length]
    refine ⟨by rw [hq]; rfl, ?_⟩
    rw [hb, e2]
    show _ + 0 ≤ _
    omega
  · rw [List.take_length, hb, e1, e2]
    exact him
/-- Sync. -/
theorem LivI.sync (h : LivI x d pb P N R z i) : LivI { x with sure := x.all } d.flush pb P N R z (i + 1) := by
  refine ⟨Dm.ok_flush h.ok, (Sz_flush h.ok).trans h.sz, h.byt.flush h.ok, h.bpb, Nat.zero_le _, h.g0, by have := h.g1; push_cast; omega, h.area, h.stage, h.tail, h.fit, Nat.le_succ_of_le h.alli, Nat.le_refl _, fun _ => Nat.le_refl _, h.okP, h.okN, h.okR, h.parts, ?_⟩
  by_cases c0 : x.stage = 0
  · exact h.home rfl rfl rfl rfl c0 (by omega)
  · obtain ⟨gi, so, ao, r, hg, hgi, him, hold, h2, h3, h4⟩ := h.now
    have hlong := him.long
    have haz : (1 - x.area) * z ≤ 1 * z := Nat.mul_le_mul_right _ (by omega)
    by_cases c4 : x.stage = 4
    · obtain ⟨e1, e2⟩ := h4 c4
      exact ⟨gi, so, ao, r, hg, hgi, .inr (.inr (.inr ⟨c4, e1, him, .inl ⟨rfl, e2⟩⟩))⟩
    · refine ⟨gi, so, ao, r, hg, hgi, .inr (.inr (.inl ⟨⟨c0, c4⟩, hold c4, [], wait_flush (32 + (1 - x.area) * z) (by rw [flush_b]; omega), Nat.zero_le _, fun c => ?_, fun c => ?_, him⟩))⟩
      · rw [splice_nil]
        exact h2 c
      · rw [splice_nil]
        exact h3 c
/-- Begin. -/
theorem LivI.beg (h : LivI x d pb P N R z i) (L : List (List Int)) (hL : ∀ p ∈ L, p.length ≤ 1000) (hB : ∀ p ∈ L, Byt p) : ∃ N', LivI (begL x d L) d (begP x d pb L) P N' R z (i + 1) := by
  by_cases c0 : begE x d L = 0
  · refine ⟨L, ?_⟩
    unfold begL begP
    rw [if_pos c0, if_pos c0]
    have hs : x.stage = 0 ∧ x.all ≤ x.sure ∧ (framesOf (recsOf 1 L)).length ≤ Sz d := by
      unfold begE at c0
      by_cases c1 : x.stage ≠ 0 ∨ x.sure < x.all
      · rw [if_pos c1] at c0
        exact absurd c0 (by decide)
      · rw [if_neg c1] at c0
        by_cases c2 : Sz d < (framesOf (recsOf 1 L)).length
        · rw [if_pos c2] at c0
          exact absurd c0 (by decide)
        · omega
    obtain ⟨hs0, hsa, hfl⟩ := hs
    have hm := h.more
    rw [h.sz] at hfl
    refine { hm with bpb := Byt.frames 1 L hB, stage := by simp, s2 := fun _ => hsa, okN := hL, parts := fun _ _ => ⟨rfl, hfl⟩, img := ?_ }
    obtain ⟨gi, so, ao, r, hg, hgi, hc⟩ := h.img
    rcases hc with ⟨_, hold, m, _, hm2, hfs, hw, him⟩ | ⟨_, hold, j, ac, hj, hjs, hgd, hpe, him⟩ | ⟨hs2, _⟩ | ⟨hs4, _⟩
    · have em : m = (Fb P R).length := hfs hsa
      rw [em, List.take_length] at him
      have hlong := him.long
      have haz : (1 - x.area) * z ≤ 1 * z := Nat.mul_le_mul_right _ (by omega)
      refine ⟨gi, so, ao, r, hg, hgi, .inr (.inr (.inl ⟨⟨by simp, by simp⟩, hold, [], ⟨?_, ?_⟩, Nat.zero_le _, fun c => by simp at c, fun c => by simp at c, him⟩))⟩
      · have := hw.eq
        rw [em, List.drop_length] at this
        rw [this]
        rfl
      · show 32 + (1 - x.area) * z + 0 ≤ _
        omega
    · exact ⟨gi, so, ao, r, hg, hgi, .inr (.inl ⟨.inr rfl, hold, j, ac, hj, hjs, hgd, hpe, him⟩)⟩
    · exact absurd hs0 hs2.1
    · omega
  · refine ⟨N, ?_⟩
    unfold begL begP
    rw [if_neg c0, if_neg c0]
    exact h.more
/-- Step, but for the one that wipes. -/
theorem LivI.step (h : LivI x d pb P N R z i) (h4 : x.stage ≠ 4) : LivI (stepL x pb) (stepD x d pb) pb P N R z (i + 1) := by
  obtain ⟨gi, so, ao, r, hg, hgi, him, hold, h2, h3, _⟩ := h.now
  have hlong := him.long
  have hlens := him.lens hg h.area
  have hfit := h.fit
  have ha1 : x.area * z ≤ 1 * z := Nat.mul_le_mul_right _ h.area
  have ha2 : (1 - x.area) * z ≤ 1 * z := Nat.mul_le_mul_right _ (by omega)
  have hz := h.sz
  have hp : plc d (1 - x.area) 0 = 32 + (1 - x.area) * z := by
    unfold plc
    rw [hz, Nat.add_zero]
  have hold' := hold h4
  by_cases c0 : x.stage = 0
  · have e1 : stepL x pb = x := by unfold stepL; rw [if_pos c0]
    have e2 : stepD x d pb = d := by unfold stepD; rw [c0]; rfl
    rw [e1, e2]
    exact h.more
  have e1 : stepL x pb = { x with stage := (x.stage + 1) % 6 } := by unfold stepL; rw [if_neg c0, if_neg h4]
  have hso : (stepD x d pb).Ok ∧ (stepD x d pb).q.length ≤ i + 1 + 1 → LImg (stepL x pb) (stepD x d pb) pb P R z → LivI (stepL x pb) (stepD x d pb) pb P N R z (i + 1) := by
    intro hok hi
    have hby := h.byt.step (x := x) h.ok h.bpb
    have hsz := (Sz_step h.ok (x := x) pb).trans h.sz
    rw [e1] at hi ⊢
    exact ⟨hok.1, hsz, hby, h.bpb, hok.2, h.g0, by have := h.g1; push_cast; omega, h.area, by show (x.stage + 1) % 6 ≤ 5; omega, h.tail, h.fit, Nat.le_succ_of_le h.alli, h.s1, fun _ => h.s2 c0, h.okP, h.okN, h.okR, fun k1 k2 => h.parts (by omega) (by
      have := h.stage
      have k3 : (x.stage + 1) % 6 ≤ 4 := k2
      have k4 : 1 ≤ (x.stage + 1) % 6 := k1
      omega), hi⟩
  have hfo := Dm.ok_flush h.ok
  have hfl : d.flush.b.length = d.now.length := rfl
  have hst := h.stage
  rcases (show x.stage = 1 ∨ x.stage = 2 ∨ x.stage = 3 ∨ x.stage = 5 by omega) with c | c | c | c
  · have e2 : stepD x d pb = d.flush.write (plc d (1 - x.area) 0) (List.replicate (Sz d) 0) := by unfold stepD; rw [c]; rfl
    have hw : Wait (d.flush.write (plc d (1 - x.area) 0) (List.replicate (Sz d) 0)) (plc d (1 - x.area) 0) (List.replicate (Sz d) 0) := Wait.one rfl _ _ (by rw [List.length_replicate, hp, hz, hfl]; omega)
    refine hso (by rw [e2]; exact ⟨Dm.ok_write hfo ⟨by omega, by omega, by have := hw.fit; exact_mod_cast this⟩, by simp [Dm.write, Dm.flush]⟩) ?_
    rw [e1, e2]
    rw [hp] at hw
    rw [hp]
    refine ⟨gi, so, ao, r, hg, hgi, .inr (.inr (.inl ⟨⟨by simp [c], by simp [c]⟩, hold', _, hw, by rw [List.length_replicate, hz]; omega, fun _ => ?_, fun k => by simp [c] at k, him⟩))⟩
    rw [hz]
    exact splice_all _ _ (by rw [List.length_replicate]; exact hlens.2.2.2.symm)
  · obtain ⟨hpe, hpl⟩ := h.parts (by omega) (by omega)
    have e2 : stepD x d pb = d.flush.write (plc d (1 - x.area) 0) pb := by unfold stepD; rw [c]; rfl
    have hw : Wait (d.flush.write (plc d (1 - x.area) 0) pb) (plc d (1 - x.area) 0) pb := Wait.one rfl _ _ (by rw [hp, hfl]; omega)
    refine hso (by rw [e2]; exact ⟨Dm.ok_write hfo ⟨by omega, by omega, by have := hw.fit; exact_mod_cast this⟩, by simp [Dm.write, Dm.flush]⟩) ?_
    rw [e1, e2]
    rw [hp] at hw
    rw [hp]
    refine ⟨gi, so, ao, r, hg, hgi, .inr (.inr (.inl ⟨⟨by simp [c], by simp [c]⟩, hold', _, hw, hpl, fun k => by simp [c] at k, fun _ => ?_, him⟩))⟩
    rw [h2 c, splice_zero, List.drop_replicate]
  · have hgp : (x.gen + 1) % 2 * 16 = (((1 - gi) * 16 : Nat) : Int) := by omega
    have e2 : stepD x d pb = d.flush.write ((x.gen + 1) % 2 * 16) (slotB (x.gen + 1) ((1 - x.area : Nat) : Int)) := by unfold stepD; rw [c]; rfl
    rw [hgp] at e2
    have hw : Wait (d.flush.write (((1 - gi) * 16 : Nat) : Int) (slotB (x.gen + 1) ((1 - x.area : Nat) : Int))) ((1 - gi) * 16) (slotB (x.gen + 1) ((1 - x.area : Nat) : Int)) := Wait.one rfl _ _ (by rw [slotB_len, hfl]; omega)
    refine hso (by rw [e2]; exact ⟨Dm.ok_write hfo ⟨by omega, by omega, by have := hw.fit; exact_mod_cast this⟩, by simp [Dm.write, Dm.flush]⟩) ?_
    rw [e1, e2]
    exact ⟨gi, so, ao, r, hg, hgi, .inr (.inr (.inr ⟨by simp [c], h3 c, him, .inr ⟨hold', hw⟩⟩))⟩
  · have e2 : stepD x d pb = d.flush := by unfold stepD; rw [c]; rfl
    refine hso (by rw [e2]; exact ⟨hfo, Nat.zero_le _⟩) ?_
    rw [e1, e2]
    exact h.home rfl rfl rfl rfl (by simp [c]) h4
/-- The step that wipes: the new checkpoint counts. -/
theorem LivI.wipe (h : LivI x d pb P N R z i) (h4 : x.stage = 4) : LivI (stepL x pb) (stepD x d pb) pb N N [] z (i + 1) := by
  obtain ⟨gi, so, ao, r, hg, hgi, him, _, _, _, h5⟩ := h.now
  obtain ⟨hao, hso⟩ := h5 h4
  obtain ⟨hpe, hpl⟩ := h.parts (by omega) (by omega)
  have hlong := him.long
  have hlens := him.lens hg h.area
  have ha1 : x.area * z ≤ 1 * z := Nat.mul_le_mul_right _ h.area
  have hz := h.sz
  have har := h.area
  have hp : plc d x.area 0 = 32 + x.area * z := by
    unfold plc
    rw [hz, Nat.add_zero]
  have hfl : d.flush.b.length = d.now.length := rfl
  have e1 : stepL x pb = ⟨x.gen + 1, 1 - x.area, pb.length, x.all, x.sure, 5⟩ := by unfold stepL; rw [if_neg (by omega), if_pos h4]
  have e2 : stepD x d pb = d.flush.write (plc d x.area 0) (List.replicate (Sz d) 0) := by unfold stepD; rw [h4]; rfl
  have hby := h.byt.step (x := x) h.ok h.bpb
  have hsz := (Sz_step h.ok (x := x) pb).trans h.sz
  have hw : Wait (d.flush.write (plc d x.area 0) (List.replicate (Sz d) 0)) (plc d x.area 0) (List.replicate (Sz d) 0) := Wait.one rfl _ _ (by rw [List.length_replicate, hp, hz, hfl]; omega)
  have hsw := him.swap hg h.area
  have hF : Fb N [] = pb := by rw [Fb_nil, hpe]
  have hss := h.s2 (by omega)
  rw [e2] at hby hsz
  rw [e1, e2]
  refine ⟨Dm.ok_write (Dm.ok_flush h.ok) ⟨by omega, by omega, by have := hw.fit; exact_mod_cast this⟩, hsz, hby, h.bpb, by simp [Dm.write, Dm.flush], by show 1 ≤ x.gen + 1; have := h.g0; omega, by show x.gen + 1 ≤ _; have := h.g1; push_cast; omega, by show 1 - x.area ≤ 1; omega, by simp, by rw [hF], by rw [hF]; exact hpl, Nat.le_succ_of_le h.alli, h.s1, fun _ => hss, h.okN, h.okN, by simp, fun _ h => by simp at h, ?_⟩
  have e3 : 1 - (1 - x.area) = x.area := by omega
  refine ⟨1 - gi, slotB x.gen x.area, Fb P R ++ Zs (z - (Fb P R).length), r, by omega, by show (x.gen + 1) % 2 = _; omega, .inr (.inr (.inl ⟨⟨by simp, by simp⟩, Old.torn0 (.inr ⟨by show 2 ≤ x.gen + 1; have := h.g0; omega, x.area, h.area, ?_⟩), List.replicate (Sz d) 0, ?_, ?_, fun k => by simp at k, fun k => by simp at k, ?_⟩))⟩
  · show slotB x.gen x.area = slotB (x.gen + 1 - 1) x.area
    rw [Int.add_sub_cancel]
  · show Wait _ (32 + (1 - (1 - x.area)) * z) _
    rw [e3, ← hp]
    exact hw
  · rw [List.length_replicate, hz]
    exact Nat.le_refl _
  · show Img d.now (slotB (x.gen + 1) ((1 - x.area : Nat) : Int)) (slotB x.gen x.area) (Fb N [] ++ Zs (z - (Fb N []).length)) (Fb P R ++ Zs (z - (Fb P R).length)) r (1 - gi) (1 - x.area) z
    rw [hF, ← hso, ← hao]
    exact hsw
end
end Go.Proofs.Ytmbemlpmfklddaa.Own
namespace Go.Proofs.Ytmbemlpmfklddaa.Own
open Go.RowKit
/-- A disk on which nothing waits, whose slot and area tell a log: it is opened, and lives on. -/
theorem liv_opened {d : Dm} {z i gi a : Nat} {g : Int} {so ac ao r : List Int} {P R : List (List Int)} (ok : d.Ok) (hq : d.q = []) (sz : Sz d = z) (byt : ByD d) (hg : gi ≤ 1) (hgi : g % 2 = gi) (g0 : 1 ≤ g) (g1 : g ≤ i + 2) (hi : i ≤ 1000) (ha : a ≤ 1)
    (him : Img d.b (slotB g a) so ac ao r gi a z) (hold : OldT so g (1 - a)) (hgd : Good ac (Fr P R)) (okP : ∀ p ∈ P, p.length ≤ 1000) (okR : ∀ p ∈ R, p.length ≤ 1800) :
    ∃ (g : Int) (a tail : Nat) (L : List Rec) (P' R' : List (List Int)), OpensR d g a tail L P' R' ∧ g ≤ i + 2 ∧ LivI ⟨g, a, tail, 0, 0, 0⟩ (opnD d a tail) [] P' [] R' z (i + 1) := by
  have hnow : d.now = d.b := by unfold Dm.now; rw [hq]; rfl
  have him' : Img d.now (slotB g a) so ac ao r gi a z := by rw [hnow]; exact him
  have t1 : toldR (slotB g a) gi = (g, a) := told_slot g a gi (by omega) (by omega) hgi ha
  obtain ⟨g', a', t2, hlt⟩ := hold.told g0 (by omega) (1 - gi)
  have hs := (img_slots ok sz him' hg t1 t2).1 hlt
  have har := (img_area ok sz him' ha).1
  have hr := hgd.read
  have hlens := him.lens hg ha
  have hlong := him.long
  have haz : a * z ≤ 1 * z := Nat.mul_le_mul_right _ ha
  have hlen : (Fb P R).length ≤ z := by have := hgd.len; rw [hlens.2.2.1] at this; exact this
  have hp : plc d a (Fb P R).length = 32 + a * z + (Fb P R).length := by unfold plc; rw [sz]
  have hsp : splitR (Fr P R) [] [] = some (P, R) := by
    unfold Fr
    rw [split_Fr]
    rfl
  refine ⟨g, a, (Fb P R).length, Fr P R, P, R, ⟨hs, by omega, by rw [har]; exact hr, hsp⟩, g1, ?_⟩
  refine ⟨Dm.ok_write ok ⟨by omega, by omega, by rw [List.length_replicate, hp, sz]; omega⟩, sz, byt.write _ (Byt.zeros _), Byt.nil, ?_, g0, by push_cast; omega, ha, by simp, rfl, hlen, Nat.zero_le _, Nat.le_refl _, fun h => absurd rfl h, okP, by simp, okR, fun h => absurd h (by simp), ?_⟩
  · simp [opnD, Dm.write, hq]
  · refine ⟨gi, so, ao, r, hg, hgi, .inr (.inl ⟨.inl rfl, hold, R.length, ac, Nat.le_refl _, fun _ => rfl, by rw [List.take_length]; exact hgd, ?_, him⟩)⟩
    rw [List.take_length, List.drop_length]
    simp only [opnD, Dm.write]
    rw [hq, hp, sz, pendOf_nil, List.append_nil]
    simp [pend]
section
variable {x : Lg} {d : Dm} {pb : List Int} {P N R : List (List Int)} {z i : Nat}
/-- Behind a crash a log is opened, and lives on. -/
theorem LivI.crash (h : LivI x d pb P N R z i) (hi : i ≤ 1000) (last : Int) :
    ∃ (g : Int) (a tail : Nat) (L : List Rec) (P' R' : List (List Int)), OpensR (d.settle last) g a tail L P' R' ∧ g ≤ i + 2 ∧ LivI ⟨g, a, tail, 0, 0, 0⟩ (opnD (d.settle last) a tail) [] P' [] R' z (i + 1) := by
  obtain ⟨gi, so, ao, r, hg, hgi, hc⟩ := h.img
  have hok := Dm.ok_settle h.ok last
  have hsz : Sz (d.settle last) = z := by
    have := h.sz
    unfold Sz at this ⊢
    rw [settle_len]
    exact this
  have hby := h.byt.settle last
  have hg0 := h.g0
  have hg1 := h.g1
  have hfit := h.fit
  have har := h.area
  have hokF := Fr_okR h.okP h.okR
  have hfull : Good (Fb P R ++ Zs (z - (Fb P R).length)) (Fr P R) := Good.full hokF _
  have hRt : ∀ j, ∀ p ∈ R.take j, p.length ≤ 1800 := fun j p hp => h.okR p (List.mem_of_mem_take hp)
  rcases hc with ⟨hs, hold, m, hfs, hm, _, hw, him⟩ | ⟨hs, hold, j, ac, hj, _, hgd, hpe, him⟩ | ⟨hs, hold, l, hw, hl, _, _, him⟩ | ⟨hs, hao, him, hso⟩
  · have hb := hw.settle last
    have hll : ((Fb P R).drop m).length = (Fb P R).length - m := List.length_drop
    have htl : (((Fb P R).drop m).take last.toNat).length ≤ (Fb P R).length - m := by rw [List.length_take]; omega
    have hcur := him.cur har (p := m) (l := ((Fb P R).drop m).take last.toNat) (by omega)
    have hml : ((Fb P R).take m).length = m := by rw [List.length_take]; omega
    have hfi := splice_fill ((Fb P R).take m) (((Fb P R).drop m).take last.toNat) (z - m)
    rw [hml] at hfi
    rw [hfi, ← hb] at hcur
    obtain ⟨t, ht1, ht2, ht3⟩ : ∃ t, m ≤ t ∧ t ≤ (Fb P R).length ∧ (Fb P R).take m ++ ((Fb P R).drop m).take last.toNat = (Fb P R).take t := by
      by_cases hk : m + last.toNat ≤ (Fb P R).length
      · exact ⟨m + last.toNat, by omega, hk, by rw [List.take_add]⟩
      · refine ⟨(Fb P R).length, hm, Nat.le_refl _, ?_⟩
        have e1 : ((Fb P R).drop m).take last.toNat = (Fb P R).drop m := List.take_of_length_le (by omega)
        rw [e1, List.take_length, List.take_append_drop]
    rw [ht3] at hcur
    obtain ⟨j, hj1, hj2, hgd⟩ := torn_area h.okP h.okR (s := 0) (Nat.zero_le _) (by rw [List.take_zero]; exact hfs) ht1 ht2 (k := z - m - (((Fb P R).drop m).take last.toNat).length)
    exact liv_opened hok rfl hsz hby hg hgi hg0 (by omega) hi har hcur hold hgd h.okP (hRt j)
  · have hlens := him.lens hg har
    have hlong := him.long
    have haz : x.area * z ≤ 1 * z := Nat.mul_le_mul_right _ har
    obtain ⟨t0, ht0⟩ : ∃ t0, t0 = (Fb P (R.take j)).length := ⟨_, rfl⟩
    have hsame : framesOf (Fr P (R.take j)) = Fb P (R.take j) := rfl
    have htl : t0 ≤ (Fb P R).length := by rw [ht0, Fb_pre P R j, List.length_append]; omega
    have hdl : ((Fb P R).drop t0).length = (Fb P R).length - t0 := List.length_drop
    rw [← ht0] at hpe
    have hb := pend_settle hpe (by rw [List.length_replicate]; omega) (by omega) last
    rw [List.length_replicate] at hb
    by_cases hk : last.toNat ≤ z - t0
    · have c1 := him.cur har (p := t0) (l := (Zs (z - t0)).take last.toNat) (by rw [List.length_take, List.length_replicate]; omega)
      have e : last.toNat - (z - t0) = 0 := by omega
      rw [e, List.take_zero, splice_nil] at hb
      rw [← hb] at c1
      have hgs := hgd.splice (z - t0) last.toNat (by rw [hsame, ← ht0, hlens.2.2.1]; omega)
      rw [hsame, ← ht0] at hgs
      exact liv_opened hok rfl hsz hby hg hgi hg0 (by omega) hi har c1 hold hgs h.okP (hRt j)
    · have eT : (Zs (z - t0)).take last.toNat = Zs (z - t0) := List.take_of_length_le (by rw [List.length_replicate]; omega)
      rw [eT] at hb
      obtain ⟨k, hkk⟩ : ∃ k, k = last.toNat - (z - t0) := ⟨_, rfl⟩
      rw [← hkk] at hb
      have htk : (((Fb P R).drop t0).take k).length ≤ (Fb P R).length - t0 := by rw [List.length_take]; omega
      have c1 := him.cur har (p := t0) (l := Zs (z - t0)) (by rw [List.length_replicate]; omega)
      have c2 := c1.cur har (p := t0) (l := ((Fb P R).drop t0).take k) (by omega)
      have hover := good_over hgd (((Fb P R).drop t0).take k) (by rw [hsame, ← ht0, hlens.2.2.1]; omega)
      rw [hsame, ← ht0, hlens.2.2.1] at hover
      rw [hover, ← hb] at c2
      obtain ⟨t, ht1, ht2, ht3⟩ : ∃ t, t0 ≤ t ∧ t ≤ (Fb P R).length ∧ Fb P (R.take j) ++ ((Fb P R).drop t0).take k = (Fb P R).take t := by
        have hpre : Fb P (R.take j) = (Fb P R).take t0 := by
          conv => rhs; rw [Fb_pre P R j, ht0]
          rw [List.take_left]
        by_cases hk2 : t0 + k ≤ (Fb P R).length
        · exact ⟨t0 + k, by omega, hk2, by rw [List.take_add, hpre]⟩
        · refine ⟨(Fb P R).length, htl, Nat.le_refl _, ?_⟩
          have e1 : ((Fb P R).drop t0).take k = (Fb P R).drop t0 := List.take_of_length_le (by omega)
          rw [e1, List.take_length, hpre, List.take_append_drop]
      rw [ht3] at c2
      obtain ⟨q, hq1, hq2, hgd2⟩ := torn_area h.okP h.okR hj (Nat.le_of_eq ht0.symm) ht1 ht2 (k := z - t0 - (((Fb P R).drop t0).take k).length)
      exact liv_opened hok rfl hsz hby hg hgi hg0 (by omega) hi har c2 hold hgd2 h.okP (hRt q)
  · have hb := hw.settle last
    have htl : (l.take last.toNat).length ≤ l.length := by rw [List.length_take]; omega
    have hoth := him.oth har (p := 0) (l := l.take last.toNat) (by omega)
    rw [Nat.add_zero, ← hb] at hoth
    exact liv_opened hok rfl hsz hby hg hgi hg0 (by omega) hi har hoth hold hfull h.okP h.okR
  · obtain ⟨hpe, hpl⟩ := h.parts (by omega) (by omega)
    have hgN : Good ao (Fr N []) := by
      have e : Fr N [] = recsOf 1 N := by unfold Fr recsOf; simp
      rw [hao, hpe, e]
      refine Good.full (fun q hq => ?_) _
      obtain ⟨y, hy, rfl⟩ := List.mem_map.1 hq
      exact ⟨(by omega : (1 : Int) ≤ 1), (by omega : (1 : Int) ≤ 255), Nat.le_trans (h.okN y hy) (by omega)⟩
    have hnew : OldT (slotB x.gen x.area) (x.gen + 1) (1 - (1 - x.area)) := Old.torn0 (.inr ⟨by omega, x.area, har, by rw [Int.add_sub_cancel]⟩)
    have turned : Img (d.settle last).b (slotB x.gen x.area) (slotB (x.gen + 1) ((1 - x.area : Nat) : Int)) (Fb P R ++ Zs (z - (Fb P R).length)) ao r gi x.area z → ∃ (g : Int) (a tail : Nat) (L : List Rec) (P' R' : List (List Int)), OpensR (d.settle last) g a tail L P' R' ∧ g ≤ i + 2 ∧ LivI ⟨g, a, tail, 0, 0, 0⟩ (opnD (d.settle last) a tail) [] P' [] R' z (i + 1) :=
      fun him' => liv_opened hok rfl hsz hby (gi := 1 - gi) (a := 1 - x.area) (g := x.gen + 1) (by omega) (by omega) (by omega) (by omega) hi (by omega) (him'.swap hg har) hnew hgN h.okN (by simp)
    rcases hso with ⟨hp, rfl⟩ | ⟨hold, hw⟩
    · have hb : (d.settle last).b = d.b := by unfold Dm.settle; simp only; rw [hp, List.take_nil]; rfl
      exact turned (by rw [hb]; exact him)
    · have hb := hw.settle last
      have hlens := him.lens hg har
      have hsl := him.slot hg (l := (slotB (x.gen + 1) ((1 - x.area : Nat) : Int)).take last.toNat) (by rw [List.length_take, slotB_len]; omega)
      rw [← hb] at hsl
      rcases hold.torn last.toNat with ht | ht
      · rw [ht, splice_all so _ (by rw [slotB_len]; exact hlens.2.1.symm)] at hsl
        exact turned hsl
      · exact liv_opened hok rfl hsz hby hg hgi hg0 (by omega) hi har hsl ht hfull h.okP h.okR
end
end Go.Proofs.Ytmbemlpmfklddaa.Own
