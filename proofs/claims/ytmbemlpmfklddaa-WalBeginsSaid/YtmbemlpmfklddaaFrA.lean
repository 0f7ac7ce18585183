/- What stands on bytes: the record that bytes begin with, and all records. Plain lists. A record's frame. -/
import Derived.Test.YtmbemlpmfklddaaFr1
import Derived.Deep.RegionHeld3
namespace Go.Proofs.Ytmbemlpmfklddaa.Own
open Go.RowKit Go.Proofs.YtmbemlpmfklddaaW.PrintWords
/-- The length that a head tells. -/
def headN (b : List Int) : Nat := (b.getD 2 0 * 256 + b.getD 3 0).toNat
/-- Is there a whole one, by its two ends? -/
def whole (b : List Int) : Prop := 9 ≤ b.length ∧ b.getD 0 0 = 90 ∧ headN b + 9 ≤ b.length ∧ b.getD (headN b + 8) 0 = 165
instance (b : List Int) : Decidable (whole b) := by unfold whole; infer_instance
def headR (b : List Int) : Rec := (b.getD 1 0, (b.drop 4).take (headN b))
/-- The record that bytes begin with, how many it has, and what is wrong. -/
def nextR (b : List Int) : Rec × Nat × Int :=
  if ¬ whole b then ((0, []), 0, 0)
  else if ¬ okR (headR b) then ((0, []), 0, 3)
  else if fourB (sumR (headR b)) ≠ (b.drop (4 + headN b)).take 4 then ((0, []), 0, 9)
  else (headR b, headN b + 9, 0)
/-- All records, where they end, and what is wrong there. -/
def readAll : Nat → List Int → List Rec × Nat × Int
  | 0, _ => ([], 0, 0)
  | f + 1, b => if 0 < (nextR b).2.1 then ((nextR b).1 :: (readAll f (b.drop (nextR b).2.1)).1, (nextR b).2.1 + (readAll f (b.drop (nextR b).2.1)).2.1, (readAll f (b.drop (nextR b).2.1)).2.2) else ([], 0, (nextR b).2.2)
def readR (b : List Int) : List Rec × Nat × Int := readAll b.length b
theorem next_pos {b : List Int} (h : 0 < (nextR b).2.1) : nextR b = (headR b, headN b + 9, 0) ∧ whole b ∧ okR (headR b) ∧ fourB (sumR (headR b)) = (b.drop (4 + headN b)).take 4 := by
  unfold nextR at h ⊢
  by_cases h1 : whole b
  · rw [if_neg (not_not_intro h1)] at h ⊢
    by_cases h2 : okR (headR b)
    · rw [if_neg (not_not_intro h2)] at h ⊢
      by_cases h3 : fourB (sumR (headR b)) ≠ (b.drop (4 + headN b)).take 4
      · rw [if_pos h3] at h
        simp at h
      · rw [if_neg h3] at h ⊢
        exact ⟨rfl, h1, h2, Decidable.not_not.1 h3⟩
    · rw [if_pos h2] at h
      simp at h
  · rw [if_pos h1] at h
    simp at h
theorem next_le {b : List Int} (h : 0 < (nextR b).2.1) : 9 ≤ (nextR b).2.1 ∧ (nextR b).2.1 ≤ b.length := by
  obtain ⟨e, hw, _⟩ := next_pos h
  rw [e]
  have := hw.2.2.1
  simp only
  omega
theorem readAll_fuel : ∀ (f : Nat) (b : List Int), b.length ≤ f → readAll f b = readAll b.length b := by
  intro f
  induction f using Nat.strongRecOn with
  | ind f ih =>
    intro b hb
    match f, hb with
    | 0, hb =>
      have : b.length = 0 := by omega
      rw [this]
    | f + 1, hb =>
      by_cases hn : 0 < (nextR b).2.1
      · have hl := next_le hn
        obtain ⟨m, hm⟩ : ∃ m, b.length = m + 1 := ⟨b.length - 1, by omega⟩
        rw [hm]
        unfold readAll
        rw [if_pos hn, if_pos hn]
        have hd : (b.drop (nextR b).2.1).length = b.length - (nextR b).2.1 := List.length_drop
        rw [ih f (by omega) _ (by omega)]
        by_cases hmf : m = f
        · subst hmf
          rw [ih m (by omega) _ (by omega)]
        · rw [ih m (by omega) _ (by omega)]
      · match hm : b.length with
        | 0 =>
          unfold readAll
          rw [if_neg hn]
          have e : b = [] := List.eq_nil_of_length_eq_zero hm
          subst e
          rfl
        | m + 1 =>
          unfold readAll
          rw [if_neg hn, if_neg hn]
theorem readR_step {b : List Int} (h : 0 < (nextR b).2.1) : readR b = ((nextR b).1 :: (readR (b.drop (nextR b).2.1)).1, (nextR b).2.1 + (readR (b.drop (nextR b).2.1)).2.1, (readR (b.drop (nextR b).2.1)).2.2) := by
  have hl := next_le h
  unfold readR
  obtain ⟨m, hm⟩ : ∃ m, b.length = m + 1 := ⟨b.length - 1, by omega⟩
  rw [hm]
  conv => lhs; unfold readAll
  rw [if_pos h, readAll_fuel m _ (by rw [List.length_drop]; omega)]
theorem readR_stop {b : List Int} (h : (nextR b).2.1 = 0) : readR b = ([], 0, (nextR b).2.2) := by
  unfold readR
  match hm : b.length with
  | 0 =>
    have e : b = [] := List.eq_nil_of_length_eq_zero hm
    subst e
    rfl
  | m + 1 =>
    unfold readAll
    rw [if_neg (by omega)]
theorem readR_len (b : List Int) : (readR b).2.1 ≤ b.length := by
  induction hn : b.length using Nat.strongRecOn generalizing b with
  | ind n ih =>
    by_cases h : 0 < (nextR b).2.1
    · have hl := next_le h
      rw [readR_step h]
      have := ih (b.drop (nextR b).2.1).length (by rw [List.length_drop]; omega) _ rfl
      rw [List.length_drop] at this
      simp only
      omega
    · rw [readR_stop (by omega)]
      exact Nat.zero_le _
theorem frameR_len {r : Rec} : (frameR r).length = r.2.length + 9 := by
  simp [frameR, fourB]
theorem frame_cons (r : Rec) (t : List Int) : frameR r ++ t = 90 :: (r.1 % 256) :: ((r.2.length : Int) / 256 % 256) :: ((r.2.length : Int) % 256) :: (r.2 ++ (fourB (sumR r) ++ (165 :: t))) := by
  simp [frameR]
theorem headN_frame {r : Rec} (h : okR r) (t : List Int) : headN (frameR r ++ t) = r.2.length := by
  rw [frame_cons]
  unfold headN
  simp only [List.getD_cons_succ, List.getD_cons_zero]
  have := h.2.2
  omega
theorem headR_frame {r : Rec} (h : okR r) (t : List Int) : headR (frameR r ++ t) = r := by
  unfold headR
  rw [headN_frame h, frame_cons]
  simp only [List.getD_cons_succ, List.getD_cons_zero, List.drop_succ_cons, List.drop_zero]
  rw [List.take_left' rfl]
  have h1 := h.1
  have h2 := h.2.1
  exact Prod.ext (by simp only; omega) rfl
theorem whole_frame {r : Rec} (h : okR r) (t : List Int) : whole (frameR r ++ t) := by
  refine ⟨by rw [List.length_append, frameR_len]; omega, by rw [frame_cons]; rfl, by rw [headN_frame h, List.length_append, frameR_len]; omega, ?_⟩
  rw [headN_frame h, List.getD_eq_getElem?_getD]
  have e : frameR r ++ t = ([90, r.1 % 256, (r.2.length : Int) / 256 % 256, (r.2.length : Int) % 256] ++ r.2 ++ fourB (sumR r)) ++ (165 :: t) := by simp [frameR]
  rw [e, List.getElem?_append_right (by simp [fourB])]
  simp [fourB]
theorem four_frame {r : Rec} (t : List Int) : ((frameR r ++ t).drop (4 + r.2.length)).take 4 = fourB (sumR r) := by
  have e : frameR r ++ t = ([90, r.1 % 256, (r.2.length : Int) / 256 % 256, (r.2.length : Int) % 256] ++ r.2) ++ (fourB (sumR r) ++ (165 :: t)) := by simp [frameR]
  rw [e, List.drop_left' (by simp; omega), List.take_left' (by simp [fourB])]
theorem next_frame {r : Rec} (h : okR r) (t : List Int) : nextR (frameR r ++ t) = (r, r.2.length + 9, 0) := by
  unfold nextR
  rw [if_neg (not_not_intro (whole_frame h t)), headR_frame h, if_neg (not_not_intro h), headN_frame h, four_frame, if_neg (not_not_intro rfl)]
theorem read_frame {r : Rec} (h : okR r) (t : List Int) : readR (frameR r ++ t) = (r :: (readR t).1, r.2.length + 9 + (readR t).2.1, (readR t).2.2) := by
  have hp : 0 < (nextR (frameR r ++ t)).2.1 := by rw [next_frame h]; exact Nat.succ_pos _
  rw [readR_step hp, next_frame h]
  have e : (frameR r ++ t).drop (r.2.length + 9) = t := List.drop_left' frameR_len
  simp only [e]
/-- Of frames, and what stands behind them. -/
theorem read_frames : ∀ (L : List Rec) (_ : ∀ r ∈ L, okR r) (t : List Int), readR ((L.map frameR).flatten ++ t) = (L ++ (readR t).1, (L.map frameR).flatten.length + (readR t).2.1, (readR t).2.2)
  | [], _, t => by simp
  | r :: L, h, t => by
    have ih := read_frames L (fun x hx => h x (List.mem_cons_of_mem _ hx)) t
    have e : ((r :: L).map frameR).flatten ++ t = frameR r ++ ((L.map frameR).flatten ++ t) := by simp
    rw [e, read_frame (h r (by simp)), ih]
    simp only [List.map_cons, List.flatten_cons, List.length_append, frameR_len, List.cons_append]
    simp [Nat.add_assoc]
theorem getD_torn (l : List Int) (m k i : Nat) : (l.take m ++ List.replicate k 0).getD i 0 = if i < m then l.getD i 0 else 0 := by
  rw [List.getD_eq_getElem?_getD, List.getD_eq_getElem?_getD]
  by_cases h : i < m
  · rw [if_pos h]
    by_cases hl : i < l.length
    · rw [List.getElem?_append_left (by rw [List.length_take]; omega), List.getElem?_take_of_lt h]
    · rw [List.getElem?_append_right (by rw [List.length_take]; omega), List.getElem?_eq_none (by omega : l.length ≤ i), List.getElem?_replicate]
      split <;> rfl
  · rw [if_neg h, List.getElem?_append_right (by rw [List.length_take]; omega), List.getElem?_replicate]
    split <;> rfl
/-- A frame of which the last byte is lost, and noughts behind: there is no whole one. -/
theorem torn_stop {r : Rec} (h : okR r) (m k : Nat) (hm : m ≤ r.2.length + 8) : nextR ((frameR r).take m ++ List.replicate k 0) = ((0, []), 0, 0) := by
  unfold nextR
  rw [if_pos]
  rintro ⟨_, _, _, h4⟩
  have hlen := h.2.2
  have e2 : (frameR r).getD 2 0 = (r.2.length : Int) / 256 % 256 := by simp [frameR]
  have e3 : (frameR r).getD 3 0 = (r.2.length : Int) % 256 := by simp [frameR]
  have hn : m ≤ headN ((frameR r).take m ++ List.replicate k 0) + 8 := by
    unfold headN
    rw [getD_torn, getD_torn, e2, e3]
    by_cases h2 : 2 < m
    · by_cases h3 : 3 < m
      · rw [if_pos h2, if_pos h3]
        omega
      · omega
    · omega
  rw [getD_torn, if_neg (by omega)] at h4
  cases h4
def framesOf (L : List Rec) : List Int := (L.map frameR).flatten
theorem framesOf_cons (r : Rec) (L : List Rec) : framesOf (r :: L) = frameR r ++ framesOf L := by simp [framesOf]
theorem zero_stop (k : Nat) : readR (List.replicate k 0) = ([], 0, 0) := by
  have e : nextR (List.replicate k 0) = ((0, []), 0, 0) := by
    unfold nextR
    rw [if_pos]
    rintro ⟨_, h, _⟩
    rw [List.getD_eq_getElem?_getD, List.getElem?_replicate] at h
    split at h <;> cases h
  rw [readR_stop (by rw [e]), e]
theorem read_torn : ∀ (L : List Rec) (_ : ∀ r ∈ L, okR r) (last k : Nat) (_ : last ≤ (framesOf L).length), ∃ j, j ≤ L.length ∧ (framesOf (L.take j)).length ≤ last ∧ (j < L.length → last < (framesOf (L.take (j + 1))).length) ∧
    readR ((framesOf L).take last ++ List.replicate k 0) = (L.take j, (framesOf (L.take j)).length, 0)
  | [], _, last, k, hl => by
    refine ⟨0, Nat.le_refl _, Nat.zero_le _, fun h => absurd h (Nat.lt_irrefl _), ?_⟩
    simpa [framesOf] using zero_stop k
  | r :: L, h, last, k, hl => by
    have hr := h r (by simp)
    by_cases hc : (frameR r).length ≤ last
    · obtain ⟨j, h1, h2, h3, h4⟩ := read_torn L (fun x hx => h x (List.mem_cons_of_mem _ hx)) (last - (frameR r).length) k (by rw [framesOf_cons, List.length_append] at hl; omega)
      refine ⟨j + 1, by simpa using h1, ?_, fun hj => ?_, ?_⟩
      · rw [List.take_succ_cons, framesOf_cons, List.length_append]
        omega
      · rw [List.take_succ_cons, framesOf_cons, List.length_append]
        have := h3 (by simpa using hj)
        omega
      · rw [framesOf_cons, List.take_append, List.take_of_length_le hc, List.append_assoc, read_frame hr, h4, List.take_succ_cons, framesOf_cons, List.length_append, frameR_len]
    · refine ⟨0, Nat.zero_le _, Nat.zero_le _, fun _ => ?_, ?_⟩
      · rw [List.take_succ_cons, framesOf_cons, List.length_append]
        omega
      · have e := torn_stop hr last k (by rw [frameR_len] at hc; omega)
        rw [framesOf_cons, List.take_append_of_le_length (by omega), readR_stop (by rw [e]), e]
        rfl
theorem fa_next : nextR ((frameR (3, [97, 98])).set 4 120) = ((0, []), 0, 9) := by decide +kernel
theorem fa_first : (frameR (3, [97, 98])).getD 0 0 = 90 ∧ (frameR (3, [97, 98])).getD 10 0 = 165 ∧ (frameR (3, [97, 98])).length = 11 := by decide +kernel
theorem fa_cut : nextR ((frameR (3, [97, 98])).take 10) = ((0, []), 0, 0) := by decide +kernel
theorem fa_read : readR (frameR (3, [97, 98]) ++ [0, 0]) = ([(3, [97, 98])], 11, 0) := by
  rw [read_frame (by decide)]
  rfl
end Go.Proofs.Ytmbemlpmfklddaa.Own
namespace Go.Proofs.Ytmbemlpmfklddaa.Own
open Go.RowKit Go.Proofs.YtmbemlpmfklddaaW.PrintWords Go.Proofs.YtmbemlpmfklddaaW.PrintLast Go.Proofs.YtmbemlpmfklddaaW.PrintMore
set_option maxHeartbeats 1000000 in
set_option maxRecDepth 100000 in
theorem Write_bad (r : Rec) (A : Option Addr) (c : Nat) (w : World) (h : (Kd.int .u8).C w A r.2.length r.2) (hc : r.2.length ≤ c) (hr : ¬ okR r) :
    Calls Try.prog 28 #[.agg #[.int .i64 r.1, .slice A r.2.length c]] w fun e w' => e = .returned (.tuple #[.slice none 0 0, .int .i64 3]) ∧ Below w.heap.size w w' := by
  have hu49 := Try.underlying49
  obtain ⟨k, l⟩ := r
  simp only at h hc
  have H := Aside0.mk h
  have HR := Aside0.mk hr
  have hd : decide (okR (k, l)) = false := decide_eq_false hr
  clear h hr
  go_enter Try.func28, Try.ntmps28
  go_wp2_with (go_at_call 32; go_must (refine (Right_calls (k, l) A c _ (by exact Kd.C_below H.out (below_alloc (Below.refl _ _) _)) hc).mono ?_; rw [hd]; rintro e w1 ⟨rfl, hb⟩; have HB := Aside0.mk (below_step (below_alloc (Below.refl _ _) _) hb); clear hb))
  go_ret2
  exact ⟨rfl, HB.out⟩
theorem blk_drew {w : World} {g : Nat} {o : Obj} (h : w.heap[g]? = some o) : w.drew.heap[g]? = some o := h
theorem cells_box {w : World} {g : Nat} {k : Int} {A : Option Addr} {n c : Nat} (h : w.heap[g]? = some (.cells #[.int .i64 k, .slice A n c] 49 (0, 0))) : w.cell? ⟨g, 0, none⟩ = some (.int .i64 k) ∧ w.cell? ⟨g, 1, none⟩ = some (.slice A n c) :=
  ⟨cell_of_row w g 0 _ _ _ h, cell_of_row w g 1 _ _ _ h⟩
theorem C_four {w : World} {g : Nat} {t : TypeId} {fr : Nat × Nat} {A0 A1 A2 A3 : Option Addr} {n0 n1 n2 n3 c0 c1 c2 c3 : Nat} {x0 x1 x2 x3 : List Int} (hb : w.heap[g]? = some (.cells #[.slice A0 n0 c0, .slice A1 n1 c1, .slice A2 n2 c2, .slice A3 n3 c3] t fr))
    (e0 : n0 = x0.length) (e1 : n1 = x1.length) (e2 : n2 = x2.length) (e3 : n3 = x3.length) (k0 : x0.length ≤ c0) (k1 : x1.length ≤ c1) (k2 : x2.length ≤ c2) (k3 : x3.length ≤ c3)
    (h0 : (Kd.int .u8).C w A0 x0.length x0) (h1 : (Kd.int .u8).C w A1 x1.length x1) (h2 : (Kd.int .u8).C w A2 x2.length x2) (h3 : (Kd.int .u8).C w A3 x3.length x3) :
    (Kd.slice 5 (Kd.int .u8)).C w (some ⟨g, 0, none⟩) [x0, x1, x2, x3].length [x0, x1, x2, x3] := by
  subst e0 e1 e2 e3
  refine C_rows hb (by simp) (fun j x hj => ?_)
  match j, hj with
  | 0, hj =>
    obtain rfl : x0 = x := by simpa using hj
    exact ⟨_, _, rfl, k0, h0⟩
  | 1, hj =>
    obtain rfl : x1 = x := by simpa using hj
    exact ⟨_, _, rfl, k1, h1⟩
  | 2, hj =>
    obtain rfl : x2 = x := by simpa using hj
    exact ⟨_, _, rfl, k2, h2⟩
  | 3, hj =>
    obtain rfl : x3 = x := by simpa using hj
    exact ⟨_, _, rfl, k3, h3⟩
theorem frame_len {r : Rec} : (frameR r).length = r.2.length + 9 := by
  simp [frameR, fourB]
set_option maxHeartbeats 4000000 in
set_option maxRecDepth 100000 in
theorem Write_ok (r : Rec) (A : Option Addr) (c : Nat) (w : World) (h : (Kd.int .u8).C w A r.2.length r.2) (hc : r.2.length ≤ c) (hr : okR r) :
    Calls Try.prog 28 #[.agg #[.int .i64 r.1, .slice A r.2.length c]] w fun e w' => ∃ v, e = .returned (.tuple #[v, .int .i64 0]) ∧ OwnB w' w.heap.size v (frameR r) ∧ Below w.heap.size w w' := by
  have hu49 := Try.underlying49
  obtain ⟨k, l⟩ := r
  simp only at h hc
  have H := Aside0.mk h
  have HR := Aside0.mk hr
  have hd : decide (okR (k, l)) = true := decide_eq_true hr
  clear h hr
  go_enter Try.func28, Try.ntmps28
  go_wp2_with (go_at_call 32; go_must (refine (Right_calls (k, l) A c _ (by exact Kd.C_below H.out (below_alloc (Below.refl _ _) _)) hc).mono ?_; rw [hd]; rintro e w1 ⟨rfl, hb⟩; have HB := Aside0.mk (below_step (below_alloc (Below.refl _ _) _) hb); have c0 := cell_of_row w1 w.heap.size 0 _ _ _ (blk_below (heap_at rfl) hb); have c1 := cell_of_row w1 w.heap.size 1 _ _ _ (blk_below (heap_at rfl) hb); have c2 : w1.cell? ⟨w.heap.size, 0, none⟩ = some (.int .i64 k) := c0; have c3 : w1.cell? ⟨w.heap.size, 1, none⟩ = some (.slice A l.length c) := c1; have hg : w.heap.size < w1.heap.size := blk_lt (blk_below (heap_at rfl) hb); have HX := Aside0.mk (blk_below (heap_at (o := .cells #[Value.int .i64 k, Value.slice A l.length c] 49 (0, 0)) rfl) hb); clear hb c0 c1))
  have hlen : l.length ≤ 60000 := HR.out.2.2
  have hbx := Aside0.mk (show w1.heap[w.heap.size]? = some (.cells #[Value.int .i64 k, Value.slice A l.length c] 49 (0, 0)) from HX.out)
  clear HX
  go_region_held3 (fun w' => w'.cell? ⟨w.heap.size, 0, none⟩ = some (.int .i64 k) ∧ w'.cell? ⟨w.heap.size, 1, none⟩ = some (.slice A l.length c))
    (first
      | (focus (refine cells_box ?_; (repeat (first | with_reducible refine blk_alloc ?_ _ | with_reducible refine blk_drew ?_ | with_reducible refine blk_below ?_ HF.out | with_reducible refine blk_below ?_ HS.out | exact hbx.out)); done))
      | (focus (refine cells_box ?_; (repeat (first | with_reducible refine blk_alloc ?_ _ | with_reducible refine blk_drew ?_ | with_reducible refine blk_below ?_ HZ1.out | with_reducible refine blk_below ?_ HF.out | with_reducible refine blk_below ?_ HS.out | exact hbx.out)); done))
      | (focus (refine cells_box ?_; (repeat (first | with_reducible refine blk_alloc ?_ _ | with_reducible refine blk_drew ?_ | with_reducible refine blk_below ?_ HS.out | exact hbx.out)); done))
      | (focus (refine cells_box ?_; (repeat (first | with_reducible refine blk_alloc ?_ _ | with_reducible refine blk_drew ?_ | exact hbx.out)); done)))
    (first
    | (go_at_call 67; go_must (refine (sum_calls (k, l) A c _ (by exact Kd.C_below H.out (by repeat (first | exact HB.out | apply below_alloc | with_reducible apply Below.drew))) hc).mono ?_; rintro e w2 ⟨rfl, hb⟩; have HS := Aside0.mk hb; have HB2 := Aside0.mk (below_step (by repeat (first | exact HB.out | apply below_alloc | with_reducible apply Below.drew)) hb); clear hb))
    | (go_at_call 66; go_must (refine (four_calls _ _).mono ?_; rintro e w3 ⟨v4, rfl, O4, hb⟩; have HF := Aside0.mk hb; have HB3 := Aside0.mk (below_step (by repeat (first | exact HB2.out | apply below_alloc | with_reducible apply Below.drew)) hb); obtain ⟨f4, hf4⟩ : ∃ f4, f4 = fourB (sumR (k, l)) := ⟨_, rfl⟩; rw [← hf4] at O4; have HF4 := Aside0.mk hf4; clear hf4; obtain ⟨A4, c4, rfl, k4, C4⟩ := O4.slice; have HC4 := Aside0.mk C4; clear hb C4 O4))
    | (go_at_call 65; go_must (refine (Concat_calls _ 4 [[90, k % 256, (l.length : Int) / 256 % 256, (l.length : Int) % 256], l, f4, [165]] _ (by exact C_four (by repeat (first | (refine heap_at ?_; first | rfl | (simp; done)) | with_reducible refine blk_alloc ?_ _ | with_reducible refine blk_drew ?_ | with_reducible refine blk_below ?_ HF.out | with_reducible refine blk_below ?_ HS.out)) rfl rfl rfl rfl (by simp) hc k4 (by simp) (C_lit [90, k % 256, (l.length : Int) / 256 % 256, (l.length : Int) % 256] (by repeat (first | (refine heap_at ?_; first | rfl | (simp; done)) | with_reducible refine blk_alloc ?_ _ | with_reducible refine blk_drew ?_ | with_reducible refine blk_below ?_ HF.out | with_reducible refine blk_below ?_ HS.out)) (by simp [nums, IntKind.wrap_u8]) (by simp)) (Kd.C_below H.out (by repeat (first | exact HB3.out | apply below_alloc | with_reducible apply Below.drew))) (Kd.C_below HC4.out (by repeat (first | exact Below.refl _ _ | apply below_alloc | with_reducible apply Below.drew))) (C_lit [165] (by repeat (first | (refine heap_at ?_; first | rfl | (simp; done)) | with_reducible refine blk_alloc ?_ _ | with_reducible refine blk_drew ?_ | with_reducible refine blk_below ?_ HF.out | with_reducible refine blk_below ?_ HS.out)) rfl (by simp))) (by simp) (by simp) (by rw [HF4.out]; simp [fourB]; omega) (by simp)).mono ?_; rintro e w4 ⟨v, rfl, O5, hb⟩; have HZ := Aside0.mk (below_step (by repeat (first | exact HB3.out | apply below_alloc | with_reducible apply Below.drew)) hb); have HO := Aside0.mk (show OwnB w4 w.heap.size v _ from O5.lower (by have := HB3.out.size; simp; omega)); have HZ1 := Aside0.mk hb; clear O5 hb)))
  all_goals
    go_wp2_with fail
    go_ret2
    refine ⟨v, rfl, ?_, HZ.out⟩
    have e : frameR (k, l) = [[90, k % 256, (l.length : Int) / 256 % 256, (l.length : Int) % 256], l, f4, [165]].flatten := by rw [HF4.out]; simp [frameR]
    rw [e]
    exact HO.out
end Go.Proofs.Ytmbemlpmfklddaa.Own
