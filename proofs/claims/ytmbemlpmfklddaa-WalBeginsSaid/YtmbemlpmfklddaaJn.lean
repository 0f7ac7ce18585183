/- The reference's frame. join: lists as one text. -/
import Derived.Test.YtmbemlpmfklddaaHr
import Derived.Lib.ConvBytes
import Derived.Test.YtmbemlpmfklddaaCrcV
import Derived.Deep.RegionHeld3
namespace Go.Proofs.Ytmbemlpmfklddaa.Own
open Go.RowKit Go.Proofs.YtmbemlpmfklddaaW.PrintWords Go.Proofs.YtmbemlpmfklddaaW.PrintLast Go.Proofs.YtmbemlpmfklddaaW.PrintMore
theorem str_append (xs ys : List Int) : strOfNums (xs ++ ys) = strOfNums xs ++ strOfNums ys := by
  apply ByteArray.ext
  simp [strOfNums]
theorem bytes_below (W : World) (e : TypeId) (s : ByteArray) : Below W.heap.size W (Lib.bytesWorld W e s) :=
  ⟨rfl, rfl, rfl, by rw [Lib.bytesWorld_size]; omega, fun k hk => Lib.bytesWorld_at_old W e s k hk⟩
theorem bytes_C (W : World) (l : List Int) (hl : l.length ≤ 9223372036854775807) (hb : ∀ x ∈ l, 0 ≤ x ∧ x < 256) : (Kd.int .u8).C (Lib.bytesWorld W 5 (strOfNums l)) (some ⟨W.heap.size, 0, none⟩) l.length l := by
  refine ⟨rfl, hl, fun _ => ⟨_, rfl, fun j p hj => ⟨[.int .u8 p], rfl, rfl, fun i u hu => ?_⟩⟩⟩
  have hi : i = 0 := by
    have := (List.getElem?_eq_some_iff.1 hu).1
    simpa using this
  subst hi
  obtain rfl : Value.int .u8 p = u := by simpa using hu
  have hjl := (List.getElem?_eq_some_iff.1 hj).1
  have h := Lib.bytesWorld_cell W 5 (strOfNums l) j (by rw [strOfNums_size]; exact hjl)
  have e : ((((strOfNums l).data.toList.getD j 0).toNat : Nat) : Int) = p := by
    rw [strOfNums_data, List.getD_eq_getElem?_getD, List.getElem?_map, hj]
    have := hb p (List.mem_of_getElem? hj)
    simp
    omega
  rw [e] at h
  rw [add_plain]
  simpa [Kd.int, Kd.scalar] using h
theorem bytes_C' {W : World} {g : Nat} (hg : g = W.heap.size) (l : List Int) (hl : l.length ≤ 9223372036854775807) (hb : ∀ x ∈ l, 0 ≤ x ∧ x < 256) : (Kd.int .u8).C (Lib.bytesWorld W 5 (strOfNums l)) (some ⟨g, 0, none⟩) l.length l := by
  subst hg
  exact bytes_C W l hl hb
theorem own_one {W : World} {base g : Nat} (hg : g = W.heap.size) (hb : base ≤ W.heap.size) (k : Int) : OwnB (W.alloc (.cells #[.int .u8 k] 5)) base (.slice (some ⟨g, 0, none⟩) 1 1) [k] := by
  subst hg
  exact own_lit W base 5 .u8 [k] hb (by simp)
theorem four_ref {cr : Int} (h : 0 ≤ cr ∧ cr < 4294967296) : [IntKind.u64.wrap ((IntKind.u64.wrap cr).tdiv 16777216) % 256, (IntKind.u64.wrap ((IntKind.u64.wrap cr).tdiv 65536)).tmod 256 % 256, (IntKind.u64.wrap ((IntKind.u64.wrap cr).tdiv 256)).tmod 256 % 256, (IntKind.u64.wrap cr).tmod 256 % 256] = fourB cr := by
  have hw : ∀ x : Int, 0 ≤ x → x < 18446744073709551616 → IntKind.u64.wrap x = x := by
    intro x h0 h1
    simp [IntKind.wrap, IntKind.signed, IntKind.bits]
    omega
  have h0 : ∀ d : Int, 0 < d → 0 ≤ cr / d ∧ cr / d < 18446744073709551616 := by
    intro d hd
    have h1 := Int.ediv_nonneg h.1 (Int.le_of_lt hd)
    have h2 := Int.ediv_le_self d h.1
    omega
  rw [hw cr h.1 (by omega), Int.tdiv_eq_ediv_of_nonneg h.1, Int.tdiv_eq_ediv_of_nonneg h.1, Int.tdiv_eq_ediv_of_nonneg h.1, hw _ (h0 16777216 (by omega)).1 (h0 16777216 (by omega)).2, hw _ (h0 65536 (by omega)).1 (h0 65536 (by omega)).2, hw _ (h0 256 (by omega)).1 (h0 256 (by omega)).2,
    Int.tmod_eq_emod_of_nonneg (h0 65536 (by omega)).1, Int.tmod_eq_emod_of_nonneg (h0 256 (by omega)).1, Int.tmod_eq_emod_of_nonneg h.1]
  unfold fourB
  rw [Int.emod_emod_of_dvd _ (by decide : (256 : Int) ∣ 256), Int.emod_emod_of_dvd _ (by decide : (256 : Int) ∣ 256), Int.emod_emod_of_dvd _ (by decide : (256 : Int) ∣ 256)]
theorem below_drop {w w1 : World} {o : Obj} (h : Below (w.alloc o).heap.size (w.alloc o) w1) : Below w.heap.size w w1 := below_step (below_alloc (Below.refl _ _) o) h
theorem below_low {b c : Nat} {w w1 : World} (hbc : b = c) (h : Below c w w1) : Below b w w1 := by
  subst hbc
  exact h
set_option maxHeartbeats 2000000 in
set_option maxRecDepth 100000 in
theorem RefWrite_calls (k : Int) (l : List Int) (w : World) (hk : 0 < k) (hk2 : k < 256) (hl : l.length ≤ 60000) (hb : ∀ x ∈ l, 0 ≤ x ∧ x < 256) :
    Calls Try.prog 35 #[.agg #[.int .i64 k, .string (strOfNums l)]] w fun e w' => e = .returned (.string (strOfNums (frameR (k, l)))) ∧ Below w.heap.size w w' := by
  have hu55 := Try.underlying55
  have hcb := fun W => Lib.run_convert_string_bytes (P := Try.prog) W 9 22 5 (strOfNums l) Try.underlying9 Try.underlying22 Try.underlying5
  have hsz := strOfNums_size l
  have hsa := strOfNums_size
  have hc4 : ∀ (W : World) (a b c d : Int), Sem.run Try.prog (convert 22 9 (.slice (some ⟨W.heap.size, 0, none⟩) 4 4)) (W.alloc (.cells #[.int .u8 a, .int .u8 b, .int .u8 c, .int .u8 d] 5)) = .ok (.string (strOfNums [a, b, c, d])) (W.alloc (.cells #[.int .u8 a, .int .u8 b, .int .u8 c, .int .u8 d] 5)) :=
    fun W a b c d => Kd.C_string Try.underlying22 Try.underlying5 Try.underlying9 (C_lit [a, b, c, d] (heap_at rfl) rfl (by simp))
  have hc3 : ∀ (W : World) (o : Obj) (a b c : Int), Sem.run Try.prog (convert 22 9 (.slice (some ⟨W.heap.size + 1, 0, none⟩) 3 3)) ((W.alloc o).alloc (.cells #[.int .u8 a, .int .u8 b, .int .u8 c] 5)) = .ok (.string (strOfNums [a, b, c])) ((W.alloc o).alloc (.cells #[.int .u8 a, .int .u8 b, .int .u8 c] 5)) :=
    fun W o a b c => Kd.C_string Try.underlying22 Try.underlying5 Try.underlying9 (C_lit [a, b, c] (heap_at (by simp)) rfl (by simp))
  have HBR := Aside0.mk hb
  clear hb
  go_enter Try.func35, Try.ntmps35
  obtain ⟨ys, hys⟩ : ∃ ys, ys = [k] ++ l := ⟨_, rfl⟩
  have HY := Aside0.mk hys
  have hyl : ys.length ≤ 60001 := by rw [hys]; simp; omega
  have HYR := Aside0.mk (show ∀ x ∈ ys, 0 ≤ x ∧ x < 256 by
    intro x hx
    rw [hys] at hx
    rcases List.mem_append.1 hx with hx | hx
    · rw [List.mem_singleton.1 hx]; omega
    · exact HBR.out x hx)
  obtain ⟨cr, hcr⟩ : ∃ cr, cr = crcOf ys := ⟨_, rfl⟩
  have HCR := Aside0.mk hcr
  clear hys hcr
  go_wp2_with (first
    | (at_builtin; go_must (refine app_bytes (w0 := w.alloc (.cells #[.int .i64 k, .string (strOfNums l)] 55)) (w.heap.size + 1) rfl (.tmp 12) (.tmp 15) rfl _ [k] l _ _ _ rfl rfl rfl (OwnB.below (own_one (by simp) (by simp) k) (bytes_below _ 5 _)) (bytes_C' (by simp) l (by omega) HBR.out) (below_low (by simp) (below_step (below_alloc (Below.refl _ _) _) (bytes_below _ 5 _))) (by have := (bytes_below ((w.alloc (.cells #[.int .i64 k, .string (strOfNums l)] 55)).alloc (.cells #[.int .u8 k] 5)) 5 (strOfNums l)).size; simp at this; omega) (by simp; omega) ?_); intro v1 w1 O1 B1' G1; clear G1; rw [← HY.out] at O1; obtain ⟨A1, c1, rfl, k1, C1⟩ := OwnB.slice O1; have HC1 := Aside0.mk C1; have HB1 := Aside0.mk B1'; clear O1 B1' C1)
    | (go_at_call 18; go_must (refine (Ref_calls A1 c1 ys _ HC1.out k1 HYR.out).mono ?_; rw [← HCR.out]; rintro e w2 ⟨rfl, hd⟩; have HB2 := Aside0.mk (below_step (below_low (by simp) HB1.out) hd.below : Below (w.alloc (.cells #[.int .i64 k, .string (strOfNums l)] 55)).heap.size (w.alloc (.cells #[.int .i64 k, .string (strOfNums l)] 55)) w2); have hblk := blk_below (heap_at (o := .cells #[.int .i64 k, .string (strOfNums l)] 55) rfl) HB2.out; have c0 : w2.cell? ⟨w.heap.size, 0, none⟩ = some (.int .i64 k) := cell_of_row w2 _ 0 _ _ _ hblk; have c1 : w2.cell? ⟨w.heap.size, 1, none⟩ = some (.string (strOfNums l)) := cell_of_row w2 _ 1 _ _ _ hblk; have hlt : w.heap.size < w2.heap.size := blk_lt hblk; clear hblk hd HC1)))
  go_ret
  refine ⟨?_, below_drop (below_alloc (below_alloc HB2.out _) _)⟩
  refine congrArg (fun b => Ending.returned (.string b)) ?_
  rw [four_ref (by rw [HCR.out]; exact of_range _)]
  have e1 : k % 256 = k := by omega
  have e2 : (l.length : Int) / 256 % 256 = (l.length : Int) / 256 := by omega
  have e3 : cr = sumR (k, l) := by rw [HCR.out, HY.out]; simp [sumR, e1]
  unfold frameR
  rw [← e3]
  simp only [e1, e2]
  rw [str_append, str_append, str_append]
  rw [show ([90, k, (l.length : Int) / 256, (l.length : Int) % 256] : List Int) = [90] ++ [k, (l.length : Int) / 256, (l.length : Int) % 256] from rfl, str_append]
  rfl
end Go.Proofs.Ytmbemlpmfklddaa.Own
namespace Go.Proofs.Ytmbemlpmfklddaa.Own
open Go.RowKit Go.Proofs.YtmbemlpmfklddaaW.PrintWords Go.Proofs.YtmbemlpmfklddaaW.PrintLast Go.Proofs.YtmbemlpmfklddaaW.PrintMore
/-- A list's bytes with its length ahead. -/
def tolB (p : List Int) : List Int := [(p.length : Int) / 256 % 256, (p.length : Int) % 256] ++ p
def joinB (L : List (List Int)) : List Int := (L.map tolB).flatten
theorem joinB_take {L : List (List Int)} {i : Nat} (hi : i < L.length) : joinB (L.take (i + 1)) = joinB (L.take i) ++ tolB L[i] := by
  unfold joinB
  rw [List.take_add_one, List.getElem?_eq_getElem hi, List.map_append, List.flatten_append]
  simp
theorem joinB_len {n : Nat} : ∀ (L : List (List Int)), (∀ p ∈ L, p.length ≤ n) → (joinB L).length ≤ (n + 2) * L.length
  | [], _ => by simp [joinB]
  | p :: L, h => by
    have h1 := joinB_len L (fun x hx => h x (List.mem_cons_of_mem _ hx))
    have h2 := h p List.mem_cons_self
    have e : joinB (p :: L) = tolB p ++ joinB L := by simp [joinB]
    rw [e, List.length_append, List.length_cons, Nat.mul_add]
    simp only [tolB, List.length_append, List.length_cons, List.length_nil]
    omega
theorem cell_lt {w : World} {p : Addr} {v : Value} (h : w.cell? p = some v) : p.block < w.heap.size := by
  by_cases hl : p.block < w.heap.size
  · exact hl
  · rw [World.cell?, Array.getElem?_eq_none (by omega)] at h
    simp at h
theorem keep_join {w w2 : World} {p : Addr} {A : Option Addr} {n c : Nat} {xs : List Int} {t : ByteArray} (h : w.cell? p = some (.slice A n c)) (hC : (Kd.int .u8).C w A xs.length xs) (hn : n = xs.length) (ht : t = strOfNums xs) (hb : Below w.heap.size w w2) :
    w2.cell? p = some (.slice A n c) ∧ Sem.run Try.prog (convert 22 9 (.slice A n c)) w2 = .ok (.string t) w2 := by
  subst hn ht
  exact ⟨pw_cell_below hb h, Kd.C_string Try.underlying22 Try.underlying5 Try.underlying9 (Kd.C_below hC hb)⟩
set_option maxHeartbeats 4000000 in
set_option maxRecDepth 100000 in
theorem join_calls (A : Option Addr) (c : Nat) (L : List (List Int)) (w : World) (h0 : (Kd.slice 5 (Kd.int .u8)).C w A L.length L) (hL : L.length ≤ 1000) (hp : ∀ p ∈ L, p.length ≤ 60000) :
    Calls Try.prog 52 #[.slice A L.length c] w fun e w' => e = .returned (.string (strOfNums (joinB L))) ∧ Below w.heap.size w w' := by
  have H0 := Aside0.mk h0
  have HP := Aside0.mk hp
  have hsa := strOfNums_size
  have hc2 : ∀ (W : World) (a b : Int), Sem.run Try.prog (convert 22 9 (.slice (some ⟨W.heap.size, 0, none⟩) 2 2)) (W.alloc (.cells #[.int .u8 a, .int .u8 b] 5)).drew = .ok (.string (strOfNums [a, b])) (W.alloc (.cells #[.int .u8 a, .int .u8 b] 5)).drew :=
    fun W a b => Kd.C_string Try.underlying22 Try.underlying5 Try.underlying9 (C_lit [a, b] (blk_drew (heap_at rfl)) rfl (by simp))
  have hc1 : ∀ (W : World) (a b : Int), Sem.run Try.prog (convert 22 9 (.slice (some ⟨W.heap.size, 0, none⟩) 2 2)) (W.alloc (.cells #[.int .u8 a, .int .u8 b] 5)) = .ok (.string (strOfNums [a, b])) (W.alloc (.cells #[.int .u8 a, .int .u8 b] 5)) :=
    fun W a b => Kd.C_string Try.underlying22 Try.underlying5 Try.underlying9 (C_lit [a, b] (heap_at rfl) rfl (by simp))
  clear h0 hp
  go_enter Try.func52, Try.ntmps52
  go_wp2_with fail
  go_loopw [3, 4] (fun v3 v4 wr => ∃ (k : Nat), k ≤ L.length ∧ v3 = .string (strOfNums (joinB (L.take k))) ∧ v4 = .int .i64 k ∧ Aside0 (Below w.heap.size w wr)) (fun _ v4 _ => L.length - (intOf v4).toNat)
  case atStart => exact ⟨0, by omega, by simp [joinB, strOfNums], rfl, ⟨Below.refl _ _⟩⟩
  case round =>
    obtain ⟨k, hk, rfl, rfl, HB⟩ := hrel
    by_cases hlt : k < L.length
    · have q1 : decide ((k : Int) < (L.length : Int)) = true := decide_eq_true (by omega)
      have u1 : IntKind.i64.wrap ((k : Int) + 1) = (k : Int) + 1 := IntWalk.i64_in _ ⟨by omega, by omega⟩
      obtain ⟨ad, A3, c3, rfl, e0, k3, C3⟩ := atRows H0.out k hlt rfl
      have HC3 := Aside0.mk C3
      have E0 := Aside0.mk e0
      replace e0 := pw_cell_below HB.out e0
      have hpl := HP.out L[k] (List.getElem_mem hlt)
      have HJT := Aside0.mk (joinB_take hlt)
      obtain ⟨X, hX⟩ : ∃ X, X = joinB (L.take k) := ⟨_, rfl⟩
      have hxl : X.length ≤ 61000000 := by
        have h9 := joinB_len (n := 60000) (L.take k) (fun p hp => HP.out p (List.mem_of_mem_take hp))
        rw [← hX, List.length_take] at h9
        omega
      rw [← hX] at HJT ⊢
      generalize L[k] = pb at e0 k3 HC3 hpl HJT E0
      clear C3 hX
      obtain ⟨n, hn⟩ : ∃ n, n = pb.length := ⟨_, rfl⟩
      have HN := Aside0.mk hn
      rw [← hn] at e0 hpl k3 E0
      obtain ⟨t, ht⟩ : ∃ t, t = strOfNums pb := ⟨_, rfl⟩
      have HT := Aside0.mk ht
      have htz : t.size = n := by rw [ht, strOfNums_size, hn]
      clear hn ht
      have HW := Aside0.mk (Below.refl wr.heap.size wr)
      go_wp2_with fail
      have ec : wr.drew.cell? (ad.add k) = some (.slice A3 n c3) := e0
      have hlt2 : (ad.add k).block < wr.heap.size := cell_lt e0
      have cv1 : ∀ (x y : Int), Sem.run Try.prog (convert 22 9 (.slice A3 n c3)) (wr.alloc (.cells #[.int .u8 x, .int .u8 y] 5)).drew = .ok (.string t) (wr.alloc (.cells #[.int .u8 x, .int .u8 y] 5)).drew :=
        fun x y => (keep_join E0.out (by exact HC3.out) HN.out HT.out (below_alloc HB.out _).drew).2
      have cv2 := (keep_join E0.out (by exact HC3.out) HN.out HT.out HB.out.drew).2
      go_region
      all_goals
        go_wp2_with fail
        go_roundw
        case rel =>
          refine ⟨k + 1, by omega, ?_, by go_num, ⟨(below_alloc HB.out _).drew⟩⟩
          rw [HJT.out, str_append, tolB, str_append, ← HT.out, ← HN.out, show (n : Int) / 256 % 256 = (n : Int) / 256 by omega, ByteArray.append_assoc]
        case measure => simp [intOf]; omega
    · obtain rfl : k = L.length := by omega
      rw [List.take_length]
      go_wp2_with fail
      go_ret
      exact ⟨rfl, HB.out⟩
end Go.Proofs.Ytmbemlpmfklddaa.Own
