/- The reference's frame. -/
import Derived.Test.YtmbemlpmfklddaaFrApp
import Derived.Lib.ConvBytes
import Derived.Test.YtmbemlpmfklddaaCrcV
namespace Go.Proofs.Ytmbemlpmfklddaa.Own
open Go.RowKit Go.Proofs.YtmbemlpmfklddaaW.PrintWords Go.Proofs.YtmbemlpmfklddaaW.PrintLast Go.Proofs.YtmbemlpmfklddaaW.PrintMore
theorem str_append (xs ys : List Int) : strOfNums (xs ++ ys) = strOfNums xs ++ strOfNums ys := by
  apply ByteArray.ext
  simp [strOfNums]
theorem bytes_below (W : World) (e : TypeId) (s : ByteArray) : Below W.heap.size W (Lib.bytesWorld W e s) :=
  ⟨rfl, rfl, rfl, by rw [Lib.bytesWorld_size]; omega, fun k hk => Lib.bytesWorld_at_old W e s k hk⟩
theorem bytes_C (W : World) (l : List Int) (hl : l.length ≤ 9223372036854775807) (hb : ∀ x ∈ l, 0 ≤ x ∧ x < 256) : (Kd.int .u8).C (Lib.bytesWorld W 5 (strOfNums l)) (some ⟨W.heap.size, 0, none⟩) l.length l := by
  refine ⟨rfl, hl, fun _ => ⟨_, rfl, fun j p hj => ⟨[.int .u8 p], rfl, rfl, fun i u hu => ?_⟩⟩⟩
  have hi : i = 0 := by
    have := (List.getElem?_eq_some_iff.1 hu).1
    simpa using this
  subst hi
  obtain rfl : Value.int .u8 p = u := by simpa using hu
  have hjl := (List.getElem?_eq_some_iff.1 hj).1
  have h := Lib.bytesWorld_cell W 5 (strOfNums l) j (by rw [strOfNums_size]; exact hjl)
  have e : ((((strOfNums l).data.toList.getD j 0).toNat : Nat) : Int) = p := by
    rw [strOfNums_data, List.getD_eq_getElem?_getD, List.getElem?_map, hj]
    have := hb p (List.mem_of_getElem? hj)
    simp
    omega
  rw [e] at h
  rw [add_plain]
  simpa [Kd.int, Kd.scalar] using h
theorem bytes_C' {W : World} {g : Nat} (hg : g = W.heap.size) (l : List Int) (hl : l.length ≤ 9223372036854775807) (hb : ∀ x ∈ l, 0 ≤ x ∧ x < 256) : (Kd.int .u8).C (Lib.bytesWorld W 5 (strOfNums l)) (some ⟨g, 0, none⟩) l.length l := by
  subst hg
  exact bytes_C W l hl hb
theorem own_one {W : World} {base g : Nat} (hg : g = W.heap.size) (hb : base ≤ W.heap.size) (k : Int) : OwnB (W.alloc (.cells #[.int .u8 k] 5)) base (.slice (some ⟨g, 0, none⟩) 1 1) [k] := by
  subst hg
  exact own_lit W base 5 .u8 [k] hb (by simp)
theorem four_ref {cr : Int} (h : 0 ≤ cr ∧ cr < 4294967296) : [IntKind.u64.wrap ((IntKind.u64.wrap cr).tdiv 16777216) % 256, (IntKind.u64.wrap ((IntKind.u64.wrap cr).tdiv 65536)).tmod 256 % 256, (IntKind.u64.wrap ((IntKind.u64.wrap cr).tdiv 256)).tmod 256 % 256, (IntKind.u64.wrap cr).tmod 256 % 256] = fourB cr := by
  have hw : ∀ x : Int, 0 ≤ x → x < 18446744073709551616 → IntKind.u64.wrap x = x := by
    intro x h0 h1
    simp [IntKind.wrap, IntKind.signed, IntKind.bits]
    omega
  have h0 : ∀ d : Int, 0 < d → 0 ≤ cr / d ∧ cr / d < 18446744073709551616 := by
    intro d hd
    have h1 := Int.ediv_nonneg h.1 (Int.le_of_lt hd)
    have h2 := Int.ediv_le_self d h.1
    omega
  rw [hw cr h.1 (by omega), Int.tdiv_eq_ediv_of_nonneg h.1, Int.tdiv_eq_ediv_of_nonneg h.1, Int.tdiv_eq_ediv_of_nonneg h.1, hw _ (h0 16777216 (by omega)).1 (h0 16777216 (by omega)).2, hw _ (h0 65536 (by omega)).1 (h0 65536 (by omega)).2, hw _ (h0 256 (by omega)).1 (h0 256 (by omega)).2,
    Int.tmod_eq_emod_of_nonneg (h0 65536 (by omega)).1, Int.tmod_eq_emod_of_nonneg (h0 256 (by omega)).1, Int.tmod_eq_emod_of_nonneg h.1]
  unfold fourB
  rw [Int.emod_emod_of_dvd _ (by decide : (256 : Int) ∣ 256), Int.emod_emod_of_dvd _ (by decide : (256 : Int) ∣ 256), Int.emod_emod_of_dvd _ (by decide : (256 : Int) ∣ 256)]
theorem below_drop {w w1 : World} {o : Obj} (h : Below (w.alloc o).heap.size (w.alloc o) w1) : Below w.heap.size w w1 := below_step (below_alloc (Below.refl _ _) o) h
theorem below_low {b c : Nat} {w w1 : World} (hbc : b = c) (h : Below c w w1) : Below b w w1 := by
  subst hbc
  exact h
set_option maxHeartbeats 2000000 in
set_option maxRecDepth 100000 in
theorem RefWrite_calls (k : Int) (l : List Int) (w : World) (hk : 0 < k) (hk2 : k < 256) (hl : l.length ≤ 60000) (hb : ∀ x ∈ l, 0 ≤ x ∧ x < 256) :
    Calls Try.prog 35 #[.agg #[.int .i64 k, .string (strOfNums l)]] w fun e w' => e = .returned (.string (strOfNums (frameR (k, l)))) ∧ Below w.heap.size w w' := by
  have hu55 := Try.underlying55
  have hcb := fun W => Lib.run_convert_string_bytes (P := Try.prog) W 9 22 5 (strOfNums l) Try.underlying9 Try.underlying22 Try.underlying5
  have hsz := strOfNums_size l
  have hsa := strOfNums_size
  have hc4 : ∀ (W : World) (a b c d : Int), Sem.run Try.prog (convert 22 9 (.slice (some ⟨W.heap.size, 0, none⟩) 4 4)) (W.alloc (.cells #[.int .u8 a, .int .u8 b, .int .u8 c, .int .u8 d] 5)) = .ok (.string (strOfNums [a, b, c, d])) (W.alloc (.cells #[.int .u8 a, .int .u8 b, .int .u8 c, .int .u8 d] 5)) :=
    fun W a b c d => Kd.C_string Try.underlying22 Try.underlying5 Try.underlying9 (C_lit [a, b, c, d] (heap_at rfl) rfl (by simp))
  have hc3 : ∀ (W : World) (o : Obj) (a b c : Int), Sem.run Try.prog (convert 22 9 (.slice (some ⟨W.heap.size + 1, 0, none⟩) 3 3)) ((W.alloc o).alloc (.cells #[.int .u8 a, .int .u8 b, .int .u8 c] 5)) = .ok (.string (strOfNums [a, b, c])) ((W.alloc o).alloc (.cells #[.int .u8 a, .int .u8 b, .int .u8 c] 5)) :=
    fun W o a b c => Kd.C_string Try.underlying22 Try.underlying5 Try.underlying9 (C_lit [a, b, c] (heap_at (by simp)) rfl (by simp))
  have HBR := Aside0.mk hb
  clear hb
  go_enter Try.func35, Try.ntmps35
  obtain ⟨ys, hys⟩ : ∃ ys, ys = [k] ++ l := ⟨_, rfl⟩
  have HY := Aside0.mk hys
  have hyl : ys.length ≤ 60001 := by rw [hys]; simp; omega
  have HYR := Aside0.mk (show ∀ x ∈ ys, 0 ≤ x ∧ x < 256 by
    intro x hx
    rw [hys] at hx
    rcases List.mem_append.1 hx with hx | hx
    · rw [List.mem_singleton.1 hx]; omega
    · exact HBR.out x hx)
  obtain ⟨cr, hcr⟩ : ∃ cr, cr = crcOf ys := ⟨_, rfl⟩
  have HCR := Aside0.mk hcr
  clear hys hcr
  go_wp2_with (first
    | (at_builtin; go_must (refine app_bytes (w0 := w.alloc (.cells #[.int .i64 k, .string (strOfNums l)] 55)) (w.heap.size + 1) rfl (.tmp 12) (.tmp 15) rfl _ [k] l _ _ _ rfl rfl rfl (OwnB.below (own_one (by simp) (by simp) k) (bytes_below _ 5 _)) (bytes_C' (by simp) l (by omega) HBR.out) (below_low (by simp) (below_step (below_alloc (Below.refl _ _) _) (bytes_below _ 5 _))) (by have := (bytes_below ((w.alloc (.cells #[.int .i64 k, .string (strOfNums l)] 55)).alloc (.cells #[.int .u8 k] 5)) 5 (strOfNums l)).size; simp at this; omega) (by simp; omega) ?_); intro v1 w1 O1 B1' G1; clear G1; rw [← HY.out] at O1; obtain ⟨A1, c1, rfl, k1, C1⟩ := OwnB.slice O1; have HC1 := Aside0.mk C1; have HB1 := Aside0.mk B1'; clear O1 B1' C1)
    | (go_at_call 18; go_must (refine (Ref_calls A1 c1 ys _ HC1.out k1 HYR.out).mono ?_; rw [← HCR.out]; rintro e w2 ⟨rfl, hd⟩; have HB2 := Aside0.mk (below_step (below_low (by simp) HB1.out) hd.below : Below (w.alloc (.cells #[.int .i64 k, .string (strOfNums l)] 55)).heap.size (w.alloc (.cells #[.int .i64 k, .string (strOfNums l)] 55)) w2); have hblk := blk_below (heap_at (o := .cells #[.int .i64 k, .string (strOfNums l)] 55) rfl) HB2.out; have c0 : w2.cell? ⟨w.heap.size, 0, none⟩ = some (.int .i64 k) := cell_of_row w2 _ 0 _ _ _ hblk; have c1 : w2.cell? ⟨w.heap.size, 1, none⟩ = some (.string (strOfNums l)) := cell_of_row w2 _ 1 _ _ _ hblk; have hlt : w.heap.size < w2.heap.size := blk_lt hblk; clear hblk hd HC1)))
  go_ret
  refine ⟨?_, below_drop (below_alloc (below_alloc HB2.out _) _)⟩
  refine congrArg (fun b => Ending.returned (.string b)) ?_
  rw [four_ref (by rw [HCR.out]; exact of_range _)]
  have e1 : k % 256 = k := by omega
  have e2 : (l.length : Int) / 256 % 256 = (l.length : Int) / 256 := by omega
  have e3 : cr = sumR (k, l) := by rw [HCR.out, HY.out]; simp [sumR, e1]
  unfold frameR
  rw [← e3]
  simp only [e1, e2]
  rw [str_append, str_append, str_append]
  rw [show ([90, k, (l.length : Int) / 256, (l.length : Int) % 256] : List Int) = [90] ++ [k, (l.length : Int) / 256, (l.length : Int) % 256] from rfl, str_append]
  rfl
end Go.Proofs.Ytmbemlpmfklddaa.Own
