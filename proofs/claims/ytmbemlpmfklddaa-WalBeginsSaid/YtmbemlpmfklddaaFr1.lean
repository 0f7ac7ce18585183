/- What the frames' small functions answer: which records may be, a sum's bytes, a record's sum, equal bytes, bytes one behind the other. -/
import Derived.Test.YtmbemlpmfklddaaStructs
import Derived.Test.YtmbemlpmfklddaaDk1
import Derived.Test.YtmbemlpmfklddaaCrcAlive
import Derived.Deep.DeepMust
namespace Go.Proofs.Ytmbemlpmfklddaa.Own
open Go.RowKit Go.Proofs.YtmbemlpmfklddaaW.PrintWords Go.Proofs.YtmbemlpmfklddaaW.PrintLast Go.Proofs.YtmbemlpmfklddaaW.PrintMore
open PWalLives
def okR (r : Rec) : Prop := 1 ≤ r.1 ∧ r.1 ≤ 255 ∧ r.2.length ≤ 60000
instance (r : Rec) : Decidable (okR r) := by unfold okR; infer_instance
def fourB (n : Int) : List Int := [n / 16777216 % 256, n / 65536 % 256, n / 256 % 256, n % 256]
def sumR (r : Rec) : Int := crcOf ([r.1 % 256] ++ r.2)
def frameR (r : Rec) : List Int := [90, r.1 % 256, (r.2.length : Int) / 256 % 256, (r.2.length : Int) % 256] ++ r.2 ++ fourB (sumR r) ++ [165]
theorem Right_calls (r : Rec) (A : Option Addr) (c : Nat) (w : World) (h : (Kd.int .u8).C w A r.2.length r.2) (hc : r.2.length ≤ c) :
    Calls Try.prog 32 #[.agg #[.int .i64 r.1, .slice A r.2.length c]] w fun e w' => e = .returned (.bool (decide (okR r))) ∧ Below w.heap.size w w' := by
  refine frames_Right.calls r.1 A c r.2 (decide (okR r)) w h hc ?_
  unfold frames_Right.f okR
  by_cases h1 : 1 ≤ r.1
  · rw [if_pos h1]
    by_cases h2 : r.1 ≤ 255
    · rw [if_pos h2]
      simp only [h1, h2, true_and]
      congr 2
      exact propext ⟨fun h => by omega, fun h => by omega⟩
    · rw [if_neg h2]
      simp [h2]
  · rw [if_neg h1]
    simp [h1]
theorem four_calls (n : Int) (w : World) : Calls Try.prog 66 #[.int .u32 n] w fun e w' => ∃ v, e = .returned v ∧ OwnB w' w.heap.size v (fourB n) ∧ Below w.heap.size w w' := by
  refine (frames_four.calls n (fourB n) w rfl).mono ?_
  rintro e w' ⟨v, rfl, hR, hb⟩
  exact ⟨v, rfl, Kd.own_of_R hR, hb⟩
theorem equal_run (l0 l1 : List Int) (hl : l0.length = l1.length) (hm : l0.length ≤ 9223372036854775806) : ∀ (m i : Nat), m + i = l0.length → slices_Equal_byte_byte.l0 (m + 1) l0 l1 (l0.length : Int) i = some (decide (l0.drop i = l1.drop i))
  | 0, i, h => by
    unfold slices_Equal_byte_byte.l0
    rw [if_neg (by omega), List.drop_of_length_le (by omega), List.drop_of_length_le (by omega)]
    simp
  | m + 1, i, h => by
    have ih := equal_run l0 l1 hl hm m (i + 1) (by omega)
    have hi : i < l0.length := by omega
    have hi1 : i < l1.length := by omega
    unfold slices_Equal_byte_byte.l0
    rw [if_pos (by omega), if_pos (by omega), if_pos (by omega), if_pos (by omega)]
    have e0 : rd l0 (i : Int) = l0[i] := by simp [rd, List.getD_eq_getElem?_getD, List.getElem?_eq_getElem hi]
    have e1 : rd l1 (i : Int) = l1[i] := by simp [rd, List.getD_eq_getElem?_getD, List.getElem?_eq_getElem hi1]
    have ew : wrap64 ((i : Int) + 1) = ((i + 1 : Nat) : Int) := by
      unfold wrap64
      omega
    rw [e0, e1, ew, ih, List.drop_eq_getElem_cons hi, List.drop_eq_getElem_cons hi1]
    by_cases he : l0[i] = l1[i]
    · rw [if_pos he, he]
      exact congrArg some (decide_eq_decide.2 ⟨fun h => by rw [h], fun h => (List.cons.inj h).2⟩)
    · rw [if_neg he]
      exact congrArg some (decide_eq_false (fun h => he (List.cons.inj h).1)).symm
theorem Equal_calls (A0 A1 : Option Addr) (c0 c1 : Nat) (l0 l1 : List Int) (w : World) (h0 : (Kd.int .u8).C w A0 l0.length l0) (h1 : (Kd.int .u8).C w A1 l1.length l1) (k0 : l0.length ≤ c0) (k1 : l1.length ≤ c1) (hm : l0.length ≤ 9223372036854775806) :
    Calls Try.prog 93 #[.slice A0 l0.length c0, .slice A1 l1.length c1] w fun e w' => e = .returned (.bool (decide (l0 = l1))) ∧ Drawn0 w w' := by
  refine slices_Equal_byte_byte.calls (l0.length + 1) A0 c0 l0 A1 c1 l1 (decide (l0 = l1)) w h0 k0 h1 k1 ?_
  unfold slices_Equal_byte_byte.f
  by_cases hl : l0.length = l1.length
  · rw [if_pos (by omega)]
    simpa using equal_run l0 l1 hl hm l0.length 0 (by omega)
  · rw [if_neg (by omega)]
    have : l0 ≠ l1 := fun h => hl (by rw [h])
    simp [this]
theorem heap_at {w : World} {o : Obj} {g : Nat} (h : g = w.heap.size) : (w.alloc o).heap[g]? = some o := by
  subst h
  exact heap_alloc_new _ _
/-- A row of rows in one block. -/
theorem C_rows {w : World} {g : Nat} {vs : Array Value} {t : TypeId} {fr : Nat × Nat} (hb : w.heap[g]? = some (.cells vs t fr)) {xs : List (List Int)} (hn : xs.length ≤ 9223372036854775807)
    (h : ∀ (j : Nat) (x : List Int), xs[j]? = some x → ∃ A c, vs[j]? = some (.slice A x.length c) ∧ x.length ≤ c ∧ (Kd.int .u8).C w A x.length x) : (Kd.slice 5 (Kd.int .u8)).C w (some ⟨g, 0, none⟩) xs.length xs := by
  refine C_blk rfl hb hn fun j x hj => ?_
  obtain ⟨A, c, h1, h2, h3⟩ := h j x hj
  exact ⟨_, by rw [Nat.zero_add]; exact h1, K_bytes h3 h2⟩
set_option maxHeartbeats 400000 in
set_option maxRecDepth 100000 in
theorem sum_calls (r : Rec) (A : Option Addr) (c : Nat) (w : World) (h : (Kd.int .u8).C w A r.2.length r.2) (hc : r.2.length ≤ c) :
    Calls Try.prog 67 #[.agg #[.int .i64 r.1, .slice A r.2.length c]] w fun e w' => e = .returned (.int .u32 (sumR r)) ∧ Below w.heap.size w w' := by
  have hu49 := Try.underlying49
  obtain ⟨k, l⟩ := r
  simp only at h hc
  have H := Aside0.mk h
  clear h
  go_enter Try.func67, Try.ntmps67
  go_wp2_with fail
  refine (Join_calls (some ⟨w.heap.size + 1 + 1, 0, none⟩) 2 [[k % 256], l] _ ?_ (by simp)).mono ?_
  · refine C_rows (heap_at (by simp)) (by simp) (fun j x hj => ?_)
    match j, hj with
    | 0, hj =>
      obtain rfl : [k % 256] = x := by simpa using hj
      exact ⟨_, _, rfl, Nat.le_refl 1, C_lit [k % 256] (blk_alloc (heap_at (by simp)) _) rfl (by simp)⟩
    | 1, hj =>
      obtain rfl : l = x := by simpa using hj
      exact ⟨_, _, rfl, hc, Kd.C_below H.out (below_alloc (below_alloc (below_alloc (Below.refl _ _) _) _) _)⟩
  rintro e w' ⟨rfl, hd⟩
  go_wp2_with fail
  go_ret
  refine ⟨?_, below_step (below_alloc (below_alloc (below_alloc (Below.refl _ _) _) _) _) hd.below⟩
  simp [sumR]
set_option maxHeartbeats 400000 in
set_option maxRecDepth 100000 in
/-- slices.Grow of nothing: an empty row with room. -/
theorem Grow_nil (n : Nat) (h0 : 0 < n) (hn : n ≤ 1000000) (w : World) :
    Calls Try.prog 92 #[.slice none 0 0, .int .i64 n] w fun e w' => ∃ v, e = .returned v ∧ OwnB w' w.heap.size v [] ∧ Below w.heap.size w w' := by
  have q1 : decide ((n : Int) < 0) = false := decide_eq_false (by omega)
  have q2 : decide (0 < (n : Int)) = true := decide_eq_true (by omega)
  have HB := Aside0.mk (Below.refl w.heap.size w)
  go_enter Try.func92, Try.ntmps92
  go_wp2_with (at_builtin; go_must (refine Kd.R_append_zeros (Kd.int .u8) w.heap.size rfl (.tmp 20) (.tmp 21) 22 3 5 (.int .u8 0) 1 rfl Try.underlying22 Try.underlying3 info5 rfl (by decide) (by decide) _ [] 0 n (fun _ => True) rfl rfl rfl (fun _ _ => trivial) (Kd.R_nil _ _ _ _ _) (by omega) HB.out (Nat.le_refl _) (by simp; omega) ?_); go_must (intro v1 w1 R1 B1 G1 _; have O1 := Kd.own_of_R R1; clear R1 G1; have O2 : OwnB w1 w.heap.size v1 ([] ++ List.replicate (n : Int).toNat 0) := O1; rw [List.nil_append, Int.toNat_natCast] at O2; clear O1; obtain ⟨A, c, rfl, kc, C1⟩ := O2.slice; have HO := Aside0.mk O2; have HB1 := Aside0.mk B1; clear O2 B1 C1; have ht := run_take A (List.replicate n (0 : Int)).length c 0 (by omega) (by omega) kc))
  go_ret
  refine ⟨_, rfl, ?_, HB1.out⟩
  exact own_take HO.out (Nat.zero_le _)
theorem atRows {w : World} {A : Option Addr} {n : Nat} {L : List (List Int)} (h : (Kd.slice 5 (Kd.int .u8)).C w A n L) (i : Nat) (hi : i < L.length) (hn : n = L.length) : ∃ ad A3 c3, A = some ad ∧ w.cell? (ad.add i) = some (.slice A3 L[i].length c3) ∧
    L[i].length ≤ c3 ∧ (Kd.int .u8).C w A3 L[i].length L[i] := by
  obtain ⟨ad, c, e, _, hK, hc⟩ := Kd.C_get h [] (i : Int) (by omega) (by omega)
  have e0 : L.getD (i : Int).toNat [] = L[i] := by
    rw [Int.toNat_natCast]
    simp [List.getD_eq_getElem?_getD, List.getElem?_eq_getElem hi]
  rw [e0] at hK
  obtain ⟨A3, c3, rfl, l3, g3⟩ := hK
  refine ⟨ad, A3, c3, e, ?_, l3, g3⟩
  have := hc 0 _ rfl
  rwa [show (i : Int).toNat * (Kd.slice 5 (Kd.int .u8)).sz + 0 = i by rw [show (Kd.slice 5 (Kd.int .u8)).sz = 1 from rfl]; omega] at this
def sumTo (L : List (List Int)) (k : Nat) : Nat := (L.take k).flatten.length
theorem sumTo_succ (L : List (List Int)) (k : Nat) (h : k < L.length) : sumTo L (k + 1) = sumTo L k + L[k].length := by
  unfold sumTo
  rw [List.take_succ_eq_append_getElem h, List.flatten_append, List.length_append]
  congr 1
  simp
theorem sumTo_le (L : List (List Int)) (k : Nat) : sumTo L k ≤ L.flatten.length := by
  unfold sumTo
  have : L.flatten = (L.take k).flatten ++ (L.drop k).flatten := by rw [← List.flatten_append, List.take_append_drop]
  rw [this, List.length_append]
  exact Nat.le_add_right _ _
set_option maxHeartbeats 1000000 in
set_option maxRecDepth 100000 in
theorem Concat_calls (A : Option Addr) (c : Nat) (L : List (List Int)) (w : World) (h : (Kd.slice 5 (Kd.int .u8)).C w A L.length L) (_hc : L.length ≤ c) (h0 : 0 < L.flatten.length) (hn : L.flatten.length ≤ 1000000) (hl : L.length ≤ 1000) :
    Calls Try.prog 65 #[.slice A L.length c] w fun e w' => ∃ v, e = .returned v ∧ OwnB w' w.heap.size v L.flatten ∧ Below w.heap.size w w' := by
  have H := Aside0.mk h
  have HB := Aside0.mk (Below.refl w.heap.size w)
  clear h
  go_enter Try.func65, Try.ntmps65
  go_wp2_with fail
  go_loopw [3, 5, 11] (fun v3 v5 v11 wr => ∃ k : Nat, k ≤ L.length ∧ v3 = .int .i64 (sumTo L k) ∧ v11 = .int .i64 k ∧ Aside0 (Below w.heap.size w wr)) (fun _ _ v11 _ => L.length - (intOf v11).toNat)
  case atStart => exact ⟨0, by omega, rfl, rfl, HB⟩
  case round =>
    obtain ⟨k, hk, rfl, rfl, HB2⟩ := hrel
    clear HB
    by_cases hlt : k < L.length
    · obtain ⟨ad, A3, c3, rfl, e0, k3, C3⟩ := atRows (Kd.C_below H.out HB2.out) k hlt rfl
      clear C3
      have hs := sumTo_succ L k hlt
      have hs2 := sumTo_le L (k + 1)
      have HS := Aside0.mk hs
      obtain ⟨m, hm⟩ : ∃ m, m = L[k].length := ⟨_, rfl⟩
      rw [← hm] at e0 k3 hs
      have ew : IntKind.i64.wrap ((sumTo L k : Nat) + (m : Int)) = ((sumTo L (k + 1) : Nat) : Int) := by
        rw [hs, IntWalk.i64_in _ ⟨by omega, by omega⟩]
        omega
      clear hs hm
      have q3 : decide ((sumTo L (k + 1) : Int) < 0) = false := decide_eq_false (by omega)
      go_wp2_with fail
      go_roundw
      case rel => exact ⟨k + 1, by omega, rfl, by go_num, HB2⟩
      case measure => simp [intOf]; omega
    · have hkl : k = L.length := by omega
      subst hkl
      have es : sumTo L L.length = L.flatten.length := by unfold sumTo; rw [List.take_length]
      obtain ⟨T, hT⟩ : ∃ T, T = L.flatten.length := ⟨_, rfl⟩
      rw [← hT] at es h0 hn
      have HT := Aside0.mk hT
      clear hT hlt hk
      go_wp2_with (go_at_call 92; go_must (refine (Grow_nil T h0 hn _).mono ?_; rintro e w1 ⟨v, rfl, h, hb⟩; have HB3 := Aside0.mk (below_step HB2.out hb); have HO := Aside0.mk (h.lower HB2.out.size); clear HB2 h hb))
      go_loopw [6, 8, 27] (fun v6 v8 v27 wr => ∃ (k : Nat) (v : Value), v = v6 ∧ k ≤ L.length ∧ v27 = .int .i64 k ∧ Aside0 (Below w.heap.size w wr) ∧ Aside0 (OwnB wr w.heap.size v (L.take k).flatten)) (fun _ _ v27 _ => L.length - (intOf v27).toNat)
      case atStart => exact ⟨0, _, rfl, by omega, rfl, HB3, ⟨by rw [List.take_zero]; exact HO.out⟩⟩
      case round =>
        obtain ⟨k, v, rfl, hk, rfl, HB4, HO4⟩ := hrel
        clear HB3 HO
        by_cases hlt : k < L.length
        · obtain ⟨ad, A3, c3, rfl, e0, k3, C3⟩ := atRows (Kd.C_below H.out HB4.out) k hlt rfl
          obtain ⟨x, hx⟩ : ∃ x, x = L[k] := ⟨_, rfl⟩
          rw [← hx] at e0 k3 C3
          have HX := Aside0.mk (show (L.take k).flatten ++ x = (L.take (k + 1)).flatten by rw [hx, List.take_succ_eq_append_getElem hlt, List.flatten_append]; simp)
          have HC := Aside0.mk C3
          have HL := Aside0.mk (show (L.take k).flatten.length + x.length ≤ 140737488355328 by
            have := sumTo_le L (k + 1)
            unfold sumTo at this
            rw [← HX.out, List.length_append] at this
            have := HT.out
            omega)
          clear hx C3
          go_wp2_with (at_builtin; go_must (refine app_bytes w.heap.size rfl (.tmp 31) (.tmp 32) rfl v (L.take k).flatten x A3 x.length c3 rfl rfl rfl HO4.out HC.out HB4.out HB4.out.size HL.out ?_); go_must (intro v1 w1 O1 B1 G1; rw [HX.out] at O1; have HO5 := Aside0.mk O1; have HB5 := Aside0.mk B1; clear O1 B1 G1 HO4 HB4))
          go_roundw
          case rel => exact ⟨k + 1, _, rfl, by omega, by go_num, HB5, HO5⟩
          case measure => simp [intOf]; omega
        · have hkl : k = L.length := by omega
          subst hkl
          go_wp2_with fail
          go_ret
          exact ⟨_, rfl, by have := HO4.out; rwa [List.take_length] at this, HB4.out⟩
end Go.Proofs.Ytmbemlpmfklddaa.Own
