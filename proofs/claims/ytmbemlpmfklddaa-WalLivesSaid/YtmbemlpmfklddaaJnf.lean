/- The reference's frame. join: lists as one text. The reference's reading. -/
import Derived.Test.YtmbemlpmfklddaaHr
import Derived.Lib.ConvBytes
import Derived.Test.YtmbemlpmfklddaaBas
import Derived.Deep.RegionHeld3
import Derived.Lib.Bytes
import Derived.Test.YtmbemlpmfklddaaPFramesTellx1
namespace Go.Proofs.Ytmbemlpmfklddaa.Own
open Go.RowKit Go.Proofs.YtmbemlpmfklddaaW.PrintWords Go.Proofs.YtmbemlpmfklddaaW.PrintLast Go.Proofs.YtmbemlpmfklddaaW.PrintMore
theorem str_append (xs ys : List Int) : strOfNums (xs ++ ys) = strOfNums xs ++ strOfNums ys := by
  apply ByteArray.ext
  simp [strOfNums]
theorem bytes_below (W : World) (e : TypeId) (s : ByteArray) : Below W.heap.size W (Lib.bytesWorld W e s) :=
  ⟨rfl, rfl, rfl, by rw [Lib.bytesWorld_size]; omega, fun k hk => Lib.bytesWorld_at_old W e s k hk⟩
theorem bytes_C (W : World) (l : List Int) (hl : l.length ≤ 9223372036854775807) (hb : ∀ x ∈ l, 0 ≤ x ∧ x < 256) : (Kd.int .u8).C (Lib.bytesWorld W 5 (strOfNums l)) (some ⟨W.heap.size, 0, none⟩) l.length l := by
  refine ⟨rfl, hl, fun _ => ⟨_, rfl, fun j p hj => ⟨[.int .u8 p], rfl, rfl, fun i u hu => ?_⟩⟩⟩
  have hi : i = 0 := by
    have := (List.getElem?_eq_some_iff.1 hu).1
    simpa using this
  subst hi
  obtain rfl : Value.int .u8 p = u := by simpa using hu
  have hjl := (List.getElem?_eq_some_iff.1 hj).1
  have h := Lib.bytesWorld_cell W 5 (strOfNums l) j (by rw [strOfNums_size]; exact hjl)
  have e : ((((strOfNums l).data.toList.getD j 0).toNat : Nat) : Int) = p := by
    rw [strOfNums_data, List.getD_eq_getElem?_getD, List.getElem?_map, hj]
    have := hb p (List.mem_of_getElem? hj)
    simp
    omega
  rw [e] at h
  rw [add_plain]
  simpa [Kd.int, Kd.scalar] using h
theorem bytes_C' {W : World} {g : Nat} (hg : g = W.heap.size) (l : List Int) (hl : l.length ≤ 9223372036854775807) (hb : ∀ x ∈ l, 0 ≤ x ∧ x < 256) : (Kd.int .u8).C (Lib.bytesWorld W 5 (strOfNums l)) (some ⟨g, 0, none⟩) l.length l := by
  subst hg
  exact bytes_C W l hl hb
theorem own_one {W : World} {base g : Nat} (hg : g = W.heap.size) (hb : base ≤ W.heap.size) (k : Int) : OwnB (W.alloc (.cells #[.int .u8 k] 5)) base (.slice (some ⟨g, 0, none⟩) 1 1) [k] := by
  subst hg
  exact own_lit W base 5 .u8 [k] hb (by simp)
theorem four_ref {cr : Int} (h : 0 ≤ cr ∧ cr < 4294967296) : [IntKind.u64.wrap ((IntKind.u64.wrap cr).tdiv 16777216) % 256, (IntKind.u64.wrap ((IntKind.u64.wrap cr).tdiv 65536)).tmod 256 % 256, (IntKind.u64.wrap ((IntKind.u64.wrap cr).tdiv 256)).tmod 256 % 256, (IntKind.u64.wrap cr).tmod 256 % 256] = fourB cr := by
  have hw : ∀ x : Int, 0 ≤ x → x < 18446744073709551616 → IntKind.u64.wrap x = x := by
    intro x h0 h1
    simp [IntKind.wrap, IntKind.signed, IntKind.bits]
    omega
  have h0 : ∀ d : Int, 0 < d → 0 ≤ cr / d ∧ cr / d < 18446744073709551616 := by
    intro d hd
    have h1 := Int.ediv_nonneg h.1 (Int.le_of_lt hd)
    have h2 := Int.ediv_le_self d h.1
    omega
  rw [hw cr h.1 (by omega), Int.tdiv_eq_ediv_of_nonneg h.1, Int.tdiv_eq_ediv_of_nonneg h.1, Int.tdiv_eq_ediv_of_nonneg h.1, hw _ (h0 16777216 (by omega)).1 (h0 16777216 (by omega)).2, hw _ (h0 65536 (by omega)).1 (h0 65536 (by omega)).2, hw _ (h0 256 (by omega)).1 (h0 256 (by omega)).2,
    Int.tmod_eq_emod_of_nonneg (h0 65536 (by omega)).1, Int.tmod_eq_emod_of_nonneg (h0 256 (by omega)).1, Int.tmod_eq_emod_of_nonneg h.1]
  unfold fourB
  rw [Int.emod_emod_of_dvd _ (by decide : (256 : Int) ∣ 256), Int.emod_emod_of_dvd _ (by decide : (256 : Int) ∣ 256), Int.emod_emod_of_dvd _ (by decide : (256 : Int) ∣ 256)]
theorem below_drop {w w1 : World} {o : Obj} (h : Below (w.alloc o).heap.size (w.alloc o) w1) : Below w.heap.size w w1 := below_step (below_alloc (Below.refl _ _) o) h
theorem below_low {b c : Nat} {w w1 : World} (hbc : b = c) (h : Below c w w1) : Below b w w1 := by
  subst hbc
  exact h
set_option maxHeartbeats 2000000 in
set_option maxRecDepth 100000 in
theorem RefWrite_calls (k : Int) (l : List Int) (w : World) (hk : 0 < k) (hk2 : k < 256) (hl : l.length ≤ 60000) (hb : ∀ x ∈ l, 0 ≤ x ∧ x < 256) :
    Calls Try.prog 35 #[.agg #[.int .i64 k, .string (strOfNums l)]] w fun e w' => e = .returned (.string (strOfNums (frameR (k, l)))) ∧ Below w.heap.size w w' := by
  have hu55 := Try.underlying55
  have hcb := fun W => Lib.run_convert_string_bytes (P := Try.prog) W 9 22 5 (strOfNums l) Try.underlying9 Try.underlying22 Try.underlying5
  have hsz := strOfNums_size l
  have hsa := strOfNums_size
  have hc4 : ∀ (W : World) (a b c d : Int), Sem.run Try.prog (convert 22 9 (.slice (some ⟨W.heap.size, 0, none⟩) 4 4)) (W.alloc (.cells #[.int .u8 a, .int .u8 b, .int .u8 c, .int .u8 d] 5)) = .ok (.string (strOfNums [a, b, c, d])) (W.alloc (.cells #[.int .u8 a, .int .u8 b, .int .u8 c, .int .u8 d] 5)) :=
    fun W a b c d => Kd.C_string Try.underlying22 Try.underlying5 Try.underlying9 (C_lit [a, b, c, d] (heap_at rfl) rfl (by simp))
  have hc3 : ∀ (W : World) (o : Obj) (a b c : Int), Sem.run Try.prog (convert 22 9 (.slice (some ⟨W.heap.size + 1, 0, none⟩) 3 3)) ((W.alloc o).alloc (.cells #[.int .u8 a, .int .u8 b, .int .u8 c] 5)) = .ok (.string (strOfNums [a, b, c])) ((W.alloc o).alloc (.cells #[.int .u8 a, .int .u8 b, .int .u8 c] 5)) :=
    fun W o a b c => Kd.C_string Try.underlying22 Try.underlying5 Try.underlying9 (C_lit [a, b, c] (heap_at (by simp)) rfl (by simp))
  have HBR := Aside0.mk hb
  clear hb
  go_enter Try.func35, Try.ntmps35
  obtain ⟨ys, hys⟩ : ∃ ys, ys = [k] ++ l := ⟨_, rfl⟩
  have HY := Aside0.mk hys
  have hyl : ys.length ≤ 60001 := by rw [hys]; simp; omega
  have HYR := Aside0.mk (show ∀ x ∈ ys, 0 ≤ x ∧ x < 256 by
    intro x hx
    rw [hys] at hx
    rcases List.mem_append.1 hx with hx | hx
    · rw [List.mem_singleton.1 hx]; omega
    · exact HBR.out x hx)
  obtain ⟨cr, hcr⟩ : ∃ cr, cr = crcOf ys := ⟨_, rfl⟩
  have HCR := Aside0.mk hcr
  clear hys hcr
  go_wp2_with (first
    | (at_builtin; go_must (refine app_bytes (w0 := w.alloc (.cells #[.int .i64 k, .string (strOfNums l)] 55)) (w.heap.size + 1) rfl (.tmp 12) (.tmp 15) rfl _ [k] l _ _ _ rfl rfl rfl (OwnB.below (own_one (by simp) (by simp) k) (bytes_below _ 5 _)) (bytes_C' (by simp) l (by omega) HBR.out) (below_low (by simp) (below_step (below_alloc (Below.refl _ _) _) (bytes_below _ 5 _))) (by have := (bytes_below ((w.alloc (.cells #[.int .i64 k, .string (strOfNums l)] 55)).alloc (.cells #[.int .u8 k] 5)) 5 (strOfNums l)).size; simp at this; omega) (by simp; omega) ?_); intro v1 w1 O1 B1' G1; clear G1; rw [← HY.out] at O1; obtain ⟨A1, c1, rfl, k1, C1⟩ := OwnB.slice O1; have HC1 := Aside0.mk C1; have HB1 := Aside0.mk B1'; clear O1 B1' C1)
    | (go_at_call 18; go_must (refine (Ref_calls A1 c1 ys _ HC1.out k1 HYR.out).mono ?_; rw [← HCR.out]; rintro e w2 ⟨rfl, hd⟩; have HB2 := Aside0.mk (below_step (below_low (by simp) HB1.out) hd.below : Below (w.alloc (.cells #[.int .i64 k, .string (strOfNums l)] 55)).heap.size (w.alloc (.cells #[.int .i64 k, .string (strOfNums l)] 55)) w2); have hblk := blk_below (heap_at (o := .cells #[.int .i64 k, .string (strOfNums l)] 55) rfl) HB2.out; have c0 : w2.cell? ⟨w.heap.size, 0, none⟩ = some (.int .i64 k) := cell_of_row w2 _ 0 _ _ _ hblk; have c1 : w2.cell? ⟨w.heap.size, 1, none⟩ = some (.string (strOfNums l)) := cell_of_row w2 _ 1 _ _ _ hblk; have hlt : w.heap.size < w2.heap.size := blk_lt hblk; clear hblk hd HC1)))
  go_ret
  refine ⟨?_, below_drop (below_alloc (below_alloc HB2.out _) _)⟩
  refine congrArg (fun b => Ending.returned (.string b)) ?_
  rw [four_ref (by rw [HCR.out]; exact of_range _)]
  have e1 : k % 256 = k := by omega
  have e2 : (l.length : Int) / 256 % 256 = (l.length : Int) / 256 := by omega
  have e3 : cr = sumR (k, l) := by rw [HCR.out, HY.out]; simp [sumR, e1]
  unfold frameR
  rw [← e3]
  simp only [e1, e2]
  rw [str_append, str_append, str_append]
  rw [show ([90, k, (l.length : Int) / 256, (l.length : Int) % 256] : List Int) = [90] ++ [k, (l.length : Int) / 256, (l.length : Int) % 256] from rfl, str_append]
  rfl
end Go.Proofs.Ytmbemlpmfklddaa.Own
namespace Go.Proofs.Ytmbemlpmfklddaa.Own
open Go.RowKit Go.Proofs.YtmbemlpmfklddaaW.PrintWords Go.Proofs.YtmbemlpmfklddaaW.PrintLast Go.Proofs.YtmbemlpmfklddaaW.PrintMore
/-- A list's bytes with its length ahead. -/
def tolB (p : List Int) : List Int := [(p.length : Int) / 256 % 256, (p.length : Int) % 256] ++ p
def joinB (L : List (List Int)) : List Int := (L.map tolB).flatten
theorem joinB_take {L : List (List Int)} {i : Nat} (hi : i < L.length) : joinB (L.take (i + 1)) = joinB (L.take i) ++ tolB L[i] := by
  unfold joinB
  rw [List.take_add_one, List.getElem?_eq_getElem hi, List.map_append, List.flatten_append]
  simp
theorem joinB_len {n : Nat} : ∀ (L : List (List Int)), (∀ p ∈ L, p.length ≤ n) → (joinB L).length ≤ (n + 2) * L.length
  | [], _ => by simp [joinB]
  | p :: L, h => by
    have h1 := joinB_len L (fun x hx => h x (List.mem_cons_of_mem _ hx))
    have h2 := h p List.mem_cons_self
    have e : joinB (p :: L) = tolB p ++ joinB L := by simp [joinB]
    rw [e, List.length_append, List.length_cons, Nat.mul_add]
    simp only [tolB, List.length_append, List.length_cons, List.length_nil]
    omega
theorem cell_lt {w : World} {p : Addr} {v : Value} (h : w.cell? p = some v) : p.block < w.heap.size := by
  by_cases hl : p.block < w.heap.size
  · exact hl
  · rw [World.cell?, Array.getElem?_eq_none (by omega)] at h
    simp at h
theorem keep_join {w w2 : World} {p : Addr} {A : Option Addr} {n c : Nat} {xs : List Int} {t : ByteArray} (h : w.cell? p = some (.slice A n c)) (hC : (Kd.int .u8).C w A xs.length xs) (hn : n = xs.length) (ht : t = strOfNums xs) (hb : Below w.heap.size w w2) :
    w2.cell? p = some (.slice A n c) ∧ Sem.run Try.prog (convert 22 9 (.slice A n c)) w2 = .ok (.string t) w2 := by
  subst hn ht
  exact ⟨pw_cell_below hb h, Kd.C_string Try.underlying22 Try.underlying5 Try.underlying9 (Kd.C_below hC hb)⟩
set_option maxHeartbeats 4000000 in
set_option maxRecDepth 100000 in
theorem join_calls (A : Option Addr) (c : Nat) (L : List (List Int)) (w : World) (h0 : (Kd.slice 5 (Kd.int .u8)).C w A L.length L) (hL : L.length ≤ 1000) (hp : ∀ p ∈ L, p.length ≤ 60000) :
    Calls Try.prog 52 #[.slice A L.length c] w fun e w' => e = .returned (.string (strOfNums (joinB L))) ∧ Below w.heap.size w w' := by
  have H0 := Aside0.mk h0
  have HP := Aside0.mk hp
  have hsa := strOfNums_size
  have hc2 : ∀ (W : World) (a b : Int), Sem.run Try.prog (convert 22 9 (.slice (some ⟨W.heap.size, 0, none⟩) 2 2)) (W.alloc (.cells #[.int .u8 a, .int .u8 b] 5)).drew = .ok (.string (strOfNums [a, b])) (W.alloc (.cells #[.int .u8 a, .int .u8 b] 5)).drew :=
    fun W a b => Kd.C_string Try.underlying22 Try.underlying5 Try.underlying9 (C_lit [a, b] (blk_drew (heap_at rfl)) rfl (by simp))
  have hc1 : ∀ (W : World) (a b : Int), Sem.run Try.prog (convert 22 9 (.slice (some ⟨W.heap.size, 0, none⟩) 2 2)) (W.alloc (.cells #[.int .u8 a, .int .u8 b] 5)) = .ok (.string (strOfNums [a, b])) (W.alloc (.cells #[.int .u8 a, .int .u8 b] 5)) :=
    fun W a b => Kd.C_string Try.underlying22 Try.underlying5 Try.underlying9 (C_lit [a, b] (heap_at rfl) rfl (by simp))
  clear h0 hp
  go_enter Try.func52, Try.ntmps52
  go_wp2_with fail
  go_loopw [3, 4] (fun v3 v4 wr => ∃ (k : Nat), k ≤ L.length ∧ v3 = .string (strOfNums (joinB (L.take k))) ∧ v4 = .int .i64 k ∧ Aside0 (Below w.heap.size w wr)) (fun _ v4 _ => L.length - (intOf v4).toNat)
  case atStart => exact ⟨0, by omega, by simp [joinB, strOfNums], rfl, ⟨Below.refl _ _⟩⟩
  case round =>
    obtain ⟨k, hk, rfl, rfl, HB⟩ := hrel
    by_cases hlt : k < L.length
    · have q1 : decide ((k : Int) < (L.length : Int)) = true := decide_eq_true (by omega)
      have u1 : IntKind.i64.wrap ((k : Int) + 1) = (k : Int) + 1 := IntWalk.i64_in _ ⟨by omega, by omega⟩
      obtain ⟨ad, A3, c3, rfl, e0, k3, C3⟩ := atRows H0.out k hlt rfl
      have HC3 := Aside0.mk C3
      have E0 := Aside0.mk e0
      replace e0 := pw_cell_below HB.out e0
      have hpl := HP.out L[k] (List.getElem_mem hlt)
      have HJT := Aside0.mk (joinB_take hlt)
      obtain ⟨X, hX⟩ : ∃ X, X = joinB (L.take k) := ⟨_, rfl⟩
      have hxl : X.length ≤ 61000000 := by
        have h9 := joinB_len (n := 60000) (L.take k) (fun p hp => HP.out p (List.mem_of_mem_take hp))
        rw [← hX, List.length_take] at h9
        omega
      rw [← hX] at HJT ⊢
      generalize L[k] = pb at e0 k3 HC3 hpl HJT E0
      clear C3 hX
      obtain ⟨n, hn⟩ : ∃ n, n = pb.length := ⟨_, rfl⟩
      have HN := Aside0.mk hn
      rw [← hn] at e0 hpl k3 E0
      obtain ⟨t, ht⟩ : ∃ t, t = strOfNums pb := ⟨_, rfl⟩
      have HT := Aside0.mk ht
      have htz : t.size = n := by rw [ht, strOfNums_size, hn]
      clear hn ht
      have HW := Aside0.mk (Below.refl wr.heap.size wr)
      go_wp2_with fail
      have ec : wr.drew.cell? (ad.add k) = some (.slice A3 n c3) := e0
      have hlt2 : (ad.add k).block < wr.heap.size := cell_lt e0
      have cv1 : ∀ (x y : Int), Sem.run Try.prog (convert 22 9 (.slice A3 n c3)) (wr.alloc (.cells #[.int .u8 x, .int .u8 y] 5)).drew = .ok (.string t) (wr.alloc (.cells #[.int .u8 x, .int .u8 y] 5)).drew :=
        fun x y => (keep_join E0.out (by exact HC3.out) HN.out HT.out (below_alloc HB.out _).drew).2
      have cv2 := (keep_join E0.out (by exact HC3.out) HN.out HT.out HB.out.drew).2
      go_region
      all_goals
        go_wp2_with fail
        go_roundw
        case rel =>
          refine ⟨k + 1, by omega, ?_, by go_num, ⟨(below_alloc HB.out _).drew⟩⟩
          rw [HJT.out, str_append, tolB, str_append, ← HT.out, ← HN.out, show (n : Int) / 256 % 256 = (n : Int) / 256 by omega, ByteArray.append_assoc]
        case measure => simp [intOf]; omega
    · obtain rfl : k = L.length := by omega
      rw [List.take_length]
      go_wp2_with fail
      go_ret
      exact ⟨rfl, HB.out⟩
end Go.Proofs.Ytmbemlpmfklddaa.Own
namespace Go.Proofs.Ytmbemlpmfklddaa.Own
open Go.RowKit Go.Proofs.YtmbemlpmfklddaaW.PrintWords Go.Proofs.YtmbemlpmfklddaaW.PrintLast Go.Proofs.YtmbemlpmfklddaaW.PrintMore
theorem RefRight_calls (k : Int) (l : List Int) (w : World) : Calls Try.prog 33 #[.agg #[.int .i64 k, .string (strOfNums l)]] w fun e w' => e = .returned (.bool (decide (okR (k, l)))) ∧ Below w.heap.size w w' := by
  refine Go.Proofs.Ytmbemlpmfklddaa.PFramesTell.trugref13_Right.calls k (strOfNums l) _ w ?_
  unfold Go.Proofs.Ytmbemlpmfklddaa.PFramesTell.trugref13_Right.f
  rw [strOfNums_size]
  have hok : okR (k, l) ↔ 1 ≤ k ∧ k ≤ 255 ∧ l.length ≤ 60000 := Iff.rfl
  by_cases h1 : k > 0
  · rw [if_pos h1]
    by_cases h2 : k < 256
    · rw [if_pos h2]
      exact congrArg some (decide_eq_decide.2 ⟨fun h => hok.2 ⟨by omega, by omega, by omega⟩, fun h => by have := (hok.1 h).2.2; omega⟩)
    · rw [if_neg h2]
      exact congrArg some (decide_eq_false (fun h => by have := hok.1 h; omega)).symm
  · rw [if_neg h1]
    exact congrArg some (decide_eq_false (fun h => by have := hok.1 h; omega)).symm
def rowsR (L : List Rec) : List (List Value) := L.map (fun r => [.int .i64 r.1, .string (strOfNums r.2)])
theorem str_get (b : List Int) (hb : ∀ x ∈ b, 0 ≤ x ∧ x < 256) (i : Nat) (h : i < (strOfNums b).size) : (((strOfNums b)[i]'h).toNat : Int) = b.getD i 0 := by
  have hl : i < b.length := by rw [strOfNums_size] at h; exact h
  have e : (strOfNums b)[i]'h = UInt8.ofNat (b[i].toNat) := by
    show (strOfNums b).data[i]'_ = _
    simp [strOfNums]
  rw [e, List.getD_eq_getElem?_getD, List.getElem?_eq_getElem hl]
  have := hb b[i] (List.getElem_mem hl)
  simp
  omega
theorem info55 : (Try.prog.info? 55).map (fun i => (i.zero, i.size, i.bytes)) = some (some (.agg #[.int .i64 0, .string ⟨#[]⟩]), 2, 24) := by kernel_rfl
theorem str_extract (b : List Int) (i n : Nat) : (strOfNums b).extract i (i + n) = strOfNums ((b.drop i).take n) := by
  apply ByteArray.ext
  simp [strOfNums, ByteArray.data_extract]
theorem str_inj {a b : List Int} (ha : ∀ x ∈ a, 0 ≤ x ∧ x < 256) (hb : ∀ x ∈ b, 0 ≤ x ∧ x < 256) (h : strOfNums a = strOfNums b) : a = b := by
  have h1 : (strOfNums a).data.toList = (strOfNums b).data.toList := by rw [h]
  rw [strOfNums_data, strOfNums_data] at h1
  apply List.ext_getElem?
  intro i
  have h2 : (a.map fun n => UInt8.ofNat n.toNat)[i]? = (b.map fun n => UInt8.ofNat n.toNat)[i]? := by rw [h1]
  rw [List.getElem?_map, List.getElem?_map] at h2
  cases ha' : a[i]? with
  | none =>
    cases hb' : b[i]? with
    | none => rfl
    | some y => rw [ha', hb'] at h2; simp at h2
  | some x =>
    cases hb' : b[i]? with
    | none => rw [ha', hb'] at h2; simp at h2
    | some y =>
      rw [ha', hb'] at h2
      simp only [Option.map_some, Option.some.injEq] at h2
      have h3 := congrArg UInt8.toNat h2
      have hx := ha x (List.mem_of_getElem? ha')
      have hy := hb y (List.mem_of_getElem? hb')
      simp at h3
      congr 1
      omega
section
variable {w W : World} {Ps : List Thing} {v : Value} {rows : List (List Value)} {P : Program} {ops : Array Oper} {rest : List Oper} {o : Oper} {a : Act} {Q : Exit → Act → World → Prop}
theorem raw_app (sz t e : Nat) (z : Value) (bytes : Nat) (H : Here w W (RawT sz e v rows :: Ps)) (hgd : o.guard = none) (s x : Operand)
    (ho : o.op = .call { callee := .builtin .append, args := #[s, x], argTypes := #[t, t] })
    (ht : P.underlying t = some (.slice e)) (hinfo : (P.info? e).map (fun i => (i.zero, i.size, i.bytes)) = some (some z, sz, bytes)) (hz : z.cells.size = sz) (hs0 : 0 < sz) (hb0 : 0 < bytes)
    (ys : List (List Value)) (A : Option Addr) (m c : Nat) (hs : a.eval s = v) (hx : a.eval x = .slice A m c)
    (HR : ReadsRow ((Kd.raw sz).K W) sz W A m ys) (hl : (rows.length + m) * bytes ≤ 140737488355328)
    (h : ∀ v1 w1, Here w w1 (RawT sz e v1 (rows ++ ys) :: Ps) → W.grownBy w1 v.ownBlock → wpList P ops Q rest (a.put o.dst v1) w1) :
    wpList P ops Q (o :: rest) a W := by
  obtain ⟨S, ⟨h1, h1'⟩, hS, h2⟩ := H.get
  refine Kd.R_append_rows (Kd.raw sz) (Rr := (Kd.raw sz).K W) (w0 := W) 0 hgd s x t e z bytes ho ht hinfo hz hs0 hb0 v rows ys A m c (fun _ => True) (fun _ => False) hs hx (Kd.raw_any h1) HR (fun _ _ hk => hk) (fun _ hk => hk.elim) (fun _ _ => trivial) (Below.refl 0 W) (Nat.zero_le _) hl (fun v1 w1 hr _ hg hat => h v1 w1 ?_ hg)
  refine h2 (P' := RawT sz e v1 (rows ++ ys)) (S' := fun k => v1.ownBlock = some k) ⟨Kd.raw_tight hr, fun _ => Iff.rfl⟩ (Chg.grown (Chg.refl S W) hg (fun k hk => .inl ((h1' k).2 hk))) (fun k hk => ?_)
  rcases hat with hb | ⟨b, hb, hw⟩
  · exact .inl ((h1' k).2 (hb ▸ hk))
  · rw [hb] at hk
    injection hk with hk
    exact .inr (hk ▸ hw)
theorem ref_app (H : Here w W (RawT 2 55 v rows :: Ps)) (hgd : o.guard = none) (s x : Operand) (ho : o.op = .call { callee := .builtin .append, args := #[s, x], argTypes := #[58, 58] })
    (n : Int) (t : ByteArray) (g : Nat) (hs : a.eval s = v) (hx : a.eval x = .slice (some ⟨g, 0, none⟩) 1 1) (hb : W.heap[g]? = some (.cells #[.int .i64 n, .string t] 55 (0, 0))) (hl : rows.length ≤ 1000000)
    (h : ∀ v1 w1, Here w w1 (RawT 2 55 v1 (rows ++ [[.int .i64 n, .string t]]) :: Ps) → wpList Try.prog ops Q rest (a.put o.dst v1) w1) :
    wpList Try.prog ops Q (o :: rest) a W :=
  raw_app 2 58 55 (.agg #[.int .i64 0, .string ⟨#[]⟩]) 24 H hgd s x ho Try.underlying58 info55 rfl (by decide) (by decide) [[.int .i64 n, .string t]] _ 1 1 hs hx (raw_lit (cs := [.int .i64 n, .string t]) hb rfl (by
    intro u hu
    rcases List.mem_cons.1 hu with rfl | hu
    · rfl
    · rw [List.mem_singleton.1 hu]
      rfl)) (by omega) (fun v1 w1 h1 _ => h v1 w1 h1)
end
/-- The reference tells a sum's bytes by the whole frame. -/
theorem frame_eq {d : List Int} (hd : ∀ x ∈ d, 0 ≤ x ∧ x < 256) (hw : whole d) (ho : okR (headR d)) : frameR (headR d) = d.take (headN d + 9) ↔ fourB (sumR (headR d)) = (d.drop (4 + headN d)).take 4 := by
  obtain ⟨h9, h90, hn, h165⟩ := hw
  match d, h9 with
  | d0 :: d1 :: d2 :: d3 :: t, h9 =>
    have r1 := hd d1 (by simp)
    have r2 := hd d2 (by simp)
    have r3 := hd d3 (by simp)
    have e0 : d0 = 90 := h90
    have eN : headN (d0 :: d1 :: d2 :: d3 :: t) = (d2 * 256 + d3).toNat := rfl
    obtain ⟨n, hnn⟩ : ∃ n, n = headN (d0 :: d1 :: d2 :: d3 :: t) := ⟨_, rfl⟩
    have hv : (n : Int) = d2 * 256 + d3 := by rw [hnn, eN]; omega
    rw [← hnn] at hn h165 ⊢
    simp only [List.length_cons] at hn
    have eR : headR (d0 :: d1 :: d2 :: d3 :: t) = (d1, t.take n) := by
      unfold headR
      rw [← hnn]
      rfl
    have hlt : (t.take n).length = n := by rw [List.length_take]; omega
    have eT : (d0 :: d1 :: d2 :: d3 :: t).take (n + 9) = [d0, d1, d2, d3] ++ t.take n ++ (t.drop n).take 4 ++ [165] := by
      rw [show n + 9 = n + 5 + 4 by omega]
      simp only [List.take_succ_cons, List.cons_append, List.nil_append, List.append_assoc]
      congr 4
      rw [show n + 5 = n + (4 + 1) by omega, List.take_add, List.take_add]
      congr 2
      have hl8 : n + 4 < t.length := by omega
      have h165' : t[n + 4]? = some 165 := by
        have e : (d0 :: d1 :: d2 :: d3 :: t).getD (n + 8) 0 = t.getD (n + 4) 0 := by
          rw [show n + 8 = n + 4 + 4 by omega]
          rfl
        rw [e, List.getD_eq_getElem?_getD, List.getElem?_eq_getElem hl8] at h165
        rw [List.getElem?_eq_getElem hl8]
        exact congrArg some h165
      rw [List.drop_drop, List.take_one, List.head?_drop, h165']
      rfl
    rw [eT, eR]
    have ed : (d0 :: d1 :: d2 :: d3 :: t).drop (4 + n) = t.drop n := by
      rw [show 4 + n = n + 4 by omega]
      rfl
    rw [ed]
    unfold frameR
    simp only [hlt]
    rw [show d1 % 256 = d1 by omega, show (n : Int) / 256 % 256 = d2 by omega, show (n : Int) % 256 = d3 by omega, e0]
    constructor
    · intro h
      exact List.append_cancel_left (List.append_cancel_right h)
    · intro h
      rw [h]
theorem rowsR_len (L : List Rec) : (rowsR L).length = L.length := by simp [rowsR]
theorem rows_snoc {L : List Rec} {k : Int} {l : List Int} {t : ByteArray} (ht : t = strOfNums l) : rowsR L ++ [[.int .i64 k, .string t]] = rowsR (L ++ [(k, l)]) := by
  subst ht
  simp [rowsR]
theorem str_ne {a b : List Int} (h : strOfNums a ≠ strOfNums b) : ((strOfNums a).toList == (strOfNums b).toList) = false := by
  rw [beq_eq_false_iff_ne, Lib.strOfNums_toList, Lib.strOfNums_toList]
  intro e
  apply h
  apply ByteArray.ext
  apply Array.ext'
  exact e
theorem RefRight_eq (k : Int) (l : List Int) (t : ByteArray) (w : World) (ht : t = strOfNums l) : Calls Try.prog 33 #[.agg #[.int .i64 k, .string t]] w fun e w' => e = .returned (.bool (decide (okR (k, l)))) ∧ Below w.heap.size w w' := by
  subst ht
  exact RefRight_calls k l w
theorem RefWrite_eq (k : Int) (l : List Int) (t u : ByteArray) (w : World) (ht : t = strOfNums l) (hu : u = strOfNums (frameR (k, l))) (hok : okR (k, l)) (hb : ∀ x ∈ l, 0 ≤ x ∧ x < 256) :
    Calls Try.prog 35 #[.agg #[.int .i64 k, .string t]] w fun e w' => e = .returned (.string u) ∧ Below w.heap.size w w' := by
  subst ht hu
  have h : 1 ≤ k ∧ k ≤ 255 ∧ l.length ≤ 60000 := hok
  exact RefWrite_calls k l w (by omega) (by omega) h.2.2 hb
theorem next_yes {d : List Int} (hw : whole d) (ho : okR (headR d)) (hf : frameR (headR d) = d.take (headN d + 9)) (hd : ∀ x ∈ d, 0 ≤ x ∧ x < 256) : nextR d = (headR d, headN d + 9, 0) := by
  unfold nextR
  rw [if_neg (not_not_intro hw), if_neg (not_not_intro ho), if_neg (not_not_intro ((frame_eq hd hw ho).1 hf))]
theorem next_no {d : List Int} (hw : whole d) (ho : okR (headR d)) (hf : ¬ frameR (headR d) = d.take (headN d + 9)) (hd : ∀ x ∈ d, 0 ≤ x ∧ x < 256) : nextR d = ((0, []), 0, 9) := by
  unfold nextR
  rw [if_neg (not_not_intro hw), if_neg (not_not_intro ho), if_pos (fun h => hf ((frame_eq hd hw ho).2 h))]
theorem next_form {d : List Int} (hw : whole d) (ho : ¬ okR (headR d)) : nextR d = ((0, []), 0, 3) := by
  unfold nextR
  rw [if_neg (not_not_intro hw), if_pos ho]
theorem step_says {b d : List Int} {L : List Rec} {p q : Nat} (h : readR b = (L ++ (readR d).1, p + (readR d).2.1, (readR d).2.2)) (r : Rec) (hn : nextR d = (r, q, 0)) (hq : 0 < q) :
    readR b = ((L ++ [r]) ++ (readR (d.drop q)).1, (p + q) + (readR (d.drop q)).2.1, (readR (d.drop q)).2.2) := by
  rw [h, readR_step (by rw [hn]; exact hq), hn]
  simp [Nat.add_assoc]
theorem stop_says {b d : List Int} {L : List Rec} {p : Nat} {e : Int} (h : readR b = (L ++ (readR d).1, p + (readR d).2.1, (readR d).2.2)) (hn : nextR d = ((0, []), 0, e)) : readR b = (L, p, e) := by
  rw [h, readR_stop (by rw [hn]), hn]
  simp
set_option maxHeartbeats 20000000 in
set_option maxRecDepth 100000 in
theorem RefRead_calls (b : List Int) (w : World) (hl : b.length ≤ 300000) (hb : ∀ x ∈ b, 0 ≤ x ∧ x < 256) :
    Calls Try.prog 31 #[.string (strOfNums b)] w fun e w' => ∃ v, e = .returned (.tuple #[v, .int .i64 (readR b).2.1, .int .i64 (readR b).2.2]) ∧ Here w w' [RawT 2 55 v (rowsR (readR b).1)] := by
  have hu55 := Try.underlying55
  have HR := Aside0.mk hb
  have HG := Aside0.mk (str_get b hb)
  have HH := Aside0.mk (Here.nil w)
  obtain ⟨s, hs⟩ : ∃ s, s = strOfNums b := ⟨_, rfl⟩
  have HS := Aside0.mk hs
  have hsz : s.size = b.length := by rw [hs, strOfNums_size]
  rw [← hs] at HG ⊢
  clear hb hs
  go_enter Try.func31, Try.ntmps31
  go_wp2_with fail
  go_loopw [5, 6] (fun v5 v6 wr => ∃ (p : Nat) (L : List Rec) (A5 : Option Addr) (c5 : Nat), v5 = .slice A5 L.length c5 ∧ v6 = .int .i64 p ∧ p ≤ b.length ∧ L.length ≤ p ∧
      Aside0 (readR b = (L ++ (readR (b.drop p)).1, p + (readR (b.drop p)).2.1, (readR (b.drop p)).2.2)) ∧ Aside0 (Here w wr [RawT 2 55 v5 (rowsR L)])) (fun _ v6 _ => b.length - (intOf v6).toNat)
  case atStart => exact ⟨0, [], none, 0, rfl, rfl, by omega, by simp, ⟨by simp⟩, ⟨HH.out.addRaw 2 55⟩⟩
  case round =>
    obtain ⟨p, L, A5, c5, rfl, rfl, hp, hLp, HD, HI⟩ := hrel
    have u1 : IntKind.i64.wrap ((b.length : Int) - (p : Int)) = (b.length : Int) - (p : Int) := IntWalk.i64_in _ ⟨by omega, by omega⟩
    obtain ⟨d, hd⟩ : ∃ d, d = b.drop p := ⟨_, rfl⟩
    have HDL := Aside0.mk (show d.length = b.length - p by rw [hd, List.length_drop])
    have HDG := Aside0.mk (show ∀ i, b.getD (p + i) 0 = d.getD i 0 by
      intro i
      rw [hd, List.getD_eq_getElem?_getD, List.getD_eq_getElem?_getD, List.getElem?_drop])
    have HDR := Aside0.mk (show ∀ x ∈ d, 0 ≤ x ∧ x < 256 by rw [hd]; exact fun x hx => HR.out x (List.mem_of_mem_drop hx))
    rw [← hd] at HD
    have HDD := Aside0.mk hd
    clear hd
    by_cases g9 : p + 9 ≤ b.length
    · have q9 : decide ((9 : Int) ≤ (b.length : Int) - (p : Int)) = true := decide_eq_true (by omega)
      have i0 : p < b.length := by omega
      have kx0 : p < s.size := by omega
      have x0 := HG.out p kx0
      obtain ⟨y0, hy0⟩ : ∃ y0, y0 = d.getD 0 0 := ⟨_, rfl⟩
      rw [show b.getD p 0 = y0 from (HDG.out 0).trans hy0.symm] at x0
      by_cases g90 : y0 = 90
      · have q90 : (y0 == 90) = true := beq_iff_eq.mpr g90
        have i1 : p + 1 < b.length := by omega
        have i2 : p + 2 < b.length := by omega
        have i3 : p + 3 < b.length := by omega
        have kx1 : (p + 1) < s.size := by omega
        have x1 := HG.out (p + 1) kx1
        have kx2 : (p + 2) < s.size := by omega
        have x2 := HG.out (p + 2) kx2
        have kx3 : (p + 3) < s.size := by omega
        have x3 := HG.out (p + 3) kx3
        have hr : ∀ i, i < 9 → 0 ≤ d.getD i 0 ∧ d.getD i 0 < 256 := by
          intro i hi
          have hil : i < d.length := by rw [HDL.out]; omega
          rw [List.getD_eq_getElem?_getD, List.getElem?_eq_getElem hil]
          exact HDR.out _ (List.getElem_mem hil)
        have r1 := hr 1 (by omega)
        have r2 := hr 2 (by omega)
        have r3 := hr 3 (by omega)
        clear hr
        obtain ⟨y1, hy1⟩ : ∃ y1, y1 = d.getD 1 0 := ⟨_, rfl⟩
        obtain ⟨y2, hy2⟩ : ∃ y2, y2 = d.getD 2 0 := ⟨_, rfl⟩
        obtain ⟨y3, hy3⟩ : ∃ y3, y3 = d.getD 3 0 := ⟨_, rfl⟩
        rw [← hy1] at r1
        rw [← hy2] at r2
        rw [← hy3] at r3
        rw [(HDG.out 1).trans hy1.symm] at x1
        rw [(HDG.out 2).trans hy2.symm] at x2
        rw [(HDG.out 3).trans hy3.symm] at x3
        have kx2p : ((p : Int) + 2).toNat < s.size := by omega
        have x2' := HG.out ((p : Int) + 2).toNat kx2p
        have kx3p : ((p : Int) + 3).toNat < s.size := by omega
        have x3' := HG.out ((p : Int) + 3).toNat kx3p
        rw [show b.getD ((p : Int) + 2).toNat 0 = y2 by rw [show ((p : Int) + 2).toNat = p + 2 by omega, HDG.out 2, ← hy2]] at x2'
        rw [show b.getD ((p : Int) + 3).toNat 0 = y3 by rw [show ((p : Int) + 3).toNat = p + 3 by omega, HDG.out 3, ← hy3]] at x3'
        have j2 : 0 ≤ (p : Int) + 2 ∧ (p : Int) + 2 < b.length := ⟨by omega, by omega⟩
        have j3 : 0 ≤ (p : Int) + 3 ∧ (p : Int) + 3 < b.length := ⟨by omega, by omega⟩
        obtain ⟨n, hn⟩ : ∃ n, n = headN d := ⟨_, rfl⟩
        have hnv : (n : Int) = y2 * 256 + y3 := by
          rw [hn]
          unfold headN
          rw [← hy2, ← hy3]
          omega
        have HN := Aside0.mk hn
        have HY0 := Aside0.mk hy0
        have HY1 := Aside0.mk hy1
        have v0 : IntKind.i64.wrap ((p : Int) + 2) = (p : Int) + 2 := IntWalk.i64_in _ ⟨by omega, by omega⟩
        have v1 : IntKind.i64.wrap ((p : Int) + 3) = (p : Int) + 3 := IntWalk.i64_in _ ⟨by omega, by omega⟩
        have v2 : IntKind.i64.wrap (256 * y2) = 256 * y2 := IntWalk.i64_in _ ⟨by omega, by omega⟩
        have v3 : IntKind.i64.wrap (256 * y2 + y3) = (n : Int) := by rw [hnv, show 256 * y2 + y3 = y2 * 256 + y3 by omega]; exact IntWalk.i64_in _ ⟨by omega, by omega⟩
        have v4 : IntKind.i64.wrap y2 = y2 := IntWalk.i64_in _ ⟨by omega, by omega⟩
        have v5 : IntKind.i64.wrap y3 = y3 := IntWalk.i64_in _ ⟨by omega, by omega⟩
        have hnle : n < 65536 := by omega
        have w1 : IntKind.i64.wrap ((b.length : Int) - (p : Int) - 9) = (b.length : Int) - (p : Int) - 9 := IntWalk.i64_in _ ⟨by omega, by omega⟩
        clear hnv
        by_cases gn : p + n + 9 ≤ b.length
        · have qn : decide ((b.length : Int) - (p : Int) - 9 < (n : Int)) = false := decide_eq_false (by omega)
          have w2 : IntKind.i64.wrap ((p : Int) + (n : Int)) = (p : Int) + (n : Int) := IntWalk.i64_in _ ⟨by omega, by omega⟩
          have w3 : IntKind.i64.wrap ((p : Int) + (n : Int) + 8) = (p : Int) + (n : Int) + 8 := IntWalk.i64_in _ ⟨by omega, by omega⟩
          obtain ⟨y8, hy8⟩ : ∃ y8, y8 = d.getD (n + 8) 0 := ⟨_, rfl⟩
          have kx8 : (p + n + 8) < s.size := by omega
          have x8 := HG.out (p + n + 8) kx8
          rw [show b.getD (p + n + 8) 0 = y8 by rw [show p + n + 8 = p + (n + 8) by omega, HDG.out (n + 8), ← hy8]] at x8
          have kx8p : ((p : Int) + (n : Int) + 8).toNat < s.size := by omega
          have x8' := HG.out ((p : Int) + (n : Int) + 8).toNat kx8p
          rw [show b.getD ((p : Int) + (n : Int) + 8).toNat 0 = y8 by rw [show ((p : Int) + (n : Int) + 8).toNat = p + (n + 8) by omega, HDG.out (n + 8), ← hy8]] at x8'
          have j8 : 0 ≤ (p : Int) + (n : Int) + 8 ∧ (p : Int) + (n : Int) + 8 < b.length := ⟨by omega, by omega⟩
          by_cases g8 : y8 = 165
          · have q8 : (y8 != 165) = false := by rw [g8]; rfl
            have HW := Aside0.mk (show whole d from ⟨by rw [HDL.out]; omega, hy0.symm.trans g90, by rw [← hn, HDL.out]; omega, by rw [← hn, ← hy8]; exact g8⟩)
            have HRD := Aside0.mk (show headR d = (y1, (d.drop 4).take n) by unfold headR; rw [← hy1, ← hn])
            obtain ⟨rb, hrb⟩ : ∃ rb, rb = (d.drop 4).take n := ⟨_, rfl⟩
            obtain ⟨rs, hrs⟩ : ∃ rs, rs = strOfNums rb := ⟨_, rfl⟩
            rw [← hrb] at HRD
            have HRL := Aside0.mk (show rb.length = n by rw [hrb, List.length_take, List.length_drop, HDL.out]; omega)
            have HRR := Aside0.mk (show ∀ x ∈ rb, 0 ≤ x ∧ x < 256 by rw [hrb]; exact fun x hx => HDR.out x (List.mem_of_mem_drop (List.mem_of_mem_take hx)))
            have hex : s.extract ((p : Int) + 4).toNat ((p : Int) + 4 + (n : Int)).toNat = rs := by
              rw [show ((p : Int) + 4).toNat = p + 4 by omega, show ((p : Int) + 4 + (n : Int)).toNat = p + 4 + n by omega, HS.out, str_extract, hrs, hrb, HDD.out, List.drop_drop]
            have hex2 : s.extract (p + 4) (p + 4 + n) = rs := by
              rw [HS.out, str_extract, hrs, hrb, HDD.out, List.drop_drop]
            have HRS := Aside0.mk hrs
            have kx1p : ((p : Int) + 1).toNat < s.size := by omega
            have x1' := HG.out ((p : Int) + 1).toNat kx1p
            rw [show b.getD ((p : Int) + 1).toNat 0 = y1 by rw [show ((p : Int) + 1).toNat = p + 1 by omega, HDG.out 1, ← hy1]] at x1'
            have j1 : 0 ≤ (p : Int) + 1 ∧ (p : Int) + 1 < b.length := ⟨by omega, by omega⟩
            have j5 : 0 ≤ (p : Int) + 4 + (n : Int) ∧ (p : Int) + 4 + (n : Int) ≤ b.length := ⟨by omega, by omega⟩
            have j6 : 0 ≤ (p : Int) + 4 ∧ (p : Int) + 4 ≤ (p : Int) + 4 + (n : Int) := ⟨by omega, by omega⟩
            have w4 : IntKind.i64.wrap ((p : Int) + 1) = (p : Int) + 1 := IntWalk.i64_in _ ⟨by omega, by omega⟩
            have w5 : IntKind.i64.wrap ((p : Int) + 4) = (p : Int) + 4 := IntWalk.i64_in _ ⟨by omega, by omega⟩
            have w6 : IntKind.i64.wrap ((p : Int) + 4 + (n : Int)) = (p : Int) + 4 + (n : Int) := IntWalk.i64_in _ ⟨by omega, by omega⟩
            have w7 : IntKind.i64.wrap y1 = y1 := IntWalk.i64_in _ ⟨by omega, by omega⟩
            have HNN := Aside0.mk hn
            have ht9 : d.take (n + 9) = (b.drop p).take (9 + n) := by rw [HDD.out, Nat.add_comm]
            have hxt : (strOfNums b).extract p (p + (9 + n)) = strOfNums (d.take (n + 9)) := by rw [str_extract, ht9]
            have HT9 := Aside0.mk ht9
            obtain ⟨sF, hsF⟩ : ∃ sF, sF = strOfNums (frameR (y1, rb)) := ⟨_, rfl⟩
            have HSF := Aside0.mk hsF
            obtain ⟨sT, hsT⟩ : ∃ sT, sT = strOfNums (d.take (n + 9)) := ⟨_, rfl⟩
            have HST := Aside0.mk hsT
            rw [← HS.out, ← hsT] at hxt
            have hex3 : s.extract p (p + 9 + n) = sT := by rw [Nat.add_assoc]; exact hxt
            have hex4 : s.extract (p : Int).toNat ((p : Int) + 9 + (n : Int)).toNat = sT := by
              rw [show (p : Int).toNat = p by omega, show ((p : Int) + 9 + (n : Int)).toNat = p + 9 + n by omega]
              exact hex3
            have hex5 : s.extract p ((p : Int) + 9 + (n : Int)).toNat = sT := by
              rw [show ((p : Int) + 9 + (n : Int)).toNat = p + 9 + n by omega]
              exact hex3
            have j10 : 0 ≤ (p : Int) + 9 + (n : Int) ∧ (p : Int) + 9 + (n : Int) ≤ b.length := ⟨by omega, by omega⟩
            have j11 : 0 ≤ (p : Int) ∧ (p : Int) ≤ (p : Int) + 9 + (n : Int) := ⟨by omega, by omega⟩
            have w8 : IntKind.i64.wrap ((p : Int) + 9) = (p : Int) + 9 := IntWalk.i64_in _ ⟨by omega, by omega⟩
            have w9 : IntKind.i64.wrap ((p : Int) + 9 + (n : Int)) = (p : Int) + 9 + (n : Int) := IntWalk.i64_in _ ⟨by omega, by omega⟩
            clear hn hy0 hy1 hy2 hy3 hy8 hrb hrs hxt hsF hsT ht9
            by_cases hok : okR (y1, rb)
            · have qok : decide (okR (y1, rb)) = true := decide_eq_true hok
              have HOK := Aside0.mk hok
              clear hok
              by_cases hfe : frameR (y1, rb) = d.take (n + 9)
              · have HFE := Aside0.mk hfe
                have hsft : sF = sT := by rw [HSF.out, HST.out, hfe]
                have qeq : (sF.toList == sT.toList) = true := by rw [hsft]; exact beq_self_eq_true _
                subst hsft
                clear hfe
                go_wp2_with fail
                go_region
                all_goals
                  go_wp2_with fail
                  go_region
                all_goals
                  go_wp2_with (go_at_call 33; go_must (refine (RefRight_eq y1 rb rs _ HRS.out).mono ?_; rw [qok]; rintro e w6 ⟨rfl, h⟩; have HI2 := Aside0.mk ((((HI.out.alloc _).drew).drew).then_ h); have hblk := blk_below (blk_drew (blk_drew (heap_at (o := .cells #[.int .i64 y1, .string rs] 55) rfl))) h; have c0 : w6.cell? ⟨wr.heap.size, 0, none⟩ = some (.int .i64 y1) := cell_of_row w6 _ 0 _ _ _ hblk; have c1 : w6.cell? ⟨wr.heap.size, 1, none⟩ = some (.string rs) := cell_of_row w6 _ 1 _ _ _ hblk; have hlt6 : wr.heap.size < w6.heap.size := blk_lt hblk; have HBK := Aside0.mk hblk; clear h hblk))
                  go_region_with (go_at_call 35; go_must (refine (RefWrite_eq y1 rb rs sF _ HRS.out HSF.out HOK.out HRR.out).mono ?_; rintro e w7 ⟨rfl, h⟩; have HI3 := Aside0.mk ((HI2.out.drew).then_ h); have hblk := blk_below (blk_drew HBK.out) h; have d0 : w7.cell? ⟨wr.heap.size, 0, none⟩ = some (.int .i64 y1) := cell_of_row w7 _ 0 _ _ _ hblk; have d1 : w7.cell? ⟨wr.heap.size, 1, none⟩ = some (.string rs) := cell_of_row w7 _ 1 _ _ _ hblk; have hlt7 : wr.heap.size < w7.heap.size := blk_lt hblk; clear h hblk HI2 HBK))
                all_goals
                  go_wp2_with (at_builtin; go_must (refine ref_app (HI3.out.alloc _) rfl (.tmp 81) (.tmp 83) rfl y1 rs _ rfl rfl (heap_at (by first | rfl | simp)) (by rw [rowsR_len]; omega) ?_); intro v7 w8 h; obtain ⟨A7, c7, hv7, k7, _⟩ := h.raw; rw [rows_snoc HRS.out, rowsR_len, List.length_append] at hv7; subst hv7; have HI4 := Aside0.mk h; clear HI3 h)
                  go_roundw
                  case rel =>
                    have hst := step_says HD.out (y1, rb) (q := n + 9) (by rw [next_yes HW.out (by rw [HRD.out]; exact HOK.out) (by rw [HRD.out, ← HNN.out]; exact HFE.out) HDR.out, HRD.out, ← HNN.out]) (by omega)
                    rw [HDD.out, List.drop_drop] at hst
                    refine ⟨p + (n + 9), L ++ [(y1, rb)], A7, c7, by rw [List.length_append]; rfl, ?_, by omega, by rw [List.length_append]; simp; omega, ⟨hst⟩, ⟨?_⟩⟩
                    · exact congrArg (Value.int .i64) (by omega)
                    · rw [← rows_snoc HRS.out]
                      exact HI4.out
                  case measure => simp [intOf]; omega
              · have HFE := Aside0.mk hfe
                have hsft : sF ≠ sT := by
                  rw [HSF.out, HST.out]
                  exact fun h => hfe (str_inj (frameR_range HRR.out) (fun x hx => HDR.out x (List.mem_of_mem_take hx)) h)
                have qeq : (sF.toList == sT.toList) = false := by
                  rw [HSF.out, HST.out] at hsft ⊢
                  exact str_ne hsft
                have HRB := Aside0.mk (stop_says (e := 9) HD.out (next_no HW.out (by rw [HRD.out]; exact HOK.out) (by rw [HRD.out, ← HNN.out]; exact hfe) HDR.out))
                clear hfe
                go_wp2_with fail
                go_region
                all_goals
                  go_wp2_with fail
                  go_region
                all_goals
                  go_wp2_with (go_at_call 33; go_must (refine (RefRight_eq y1 rb rs _ HRS.out).mono ?_; rw [qok]; rintro e w6 ⟨rfl, h⟩; have HI2 := Aside0.mk ((((HI.out.alloc _).drew).drew).then_ h); have hblk := blk_below (blk_drew (blk_drew (heap_at (o := .cells #[.int .i64 y1, .string rs] 55) rfl))) h; have c0 : w6.cell? ⟨wr.heap.size, 0, none⟩ = some (.int .i64 y1) := cell_of_row w6 _ 0 _ _ _ hblk; have c1 : w6.cell? ⟨wr.heap.size, 1, none⟩ = some (.string rs) := cell_of_row w6 _ 1 _ _ _ hblk; have hlt6 : wr.heap.size < w6.heap.size := blk_lt hblk; have HBK := Aside0.mk hblk; clear h hblk))
                  go_region_with (go_at_call 35; go_must (refine (RefWrite_eq y1 rb rs sF _ HRS.out HSF.out HOK.out HRR.out).mono ?_; rintro e w7 ⟨rfl, h⟩; have HI3 := Aside0.mk ((HI2.out.drew).then_ h); have hblk := blk_below (blk_drew HBK.out) h; have d0 : w7.cell? ⟨wr.heap.size, 0, none⟩ = some (.int .i64 y1) := cell_of_row w7 _ 0 _ _ _ hblk; have d1 : w7.cell? ⟨wr.heap.size, 1, none⟩ = some (.string rs) := cell_of_row w7 _ 1 _ _ _ hblk; have hlt7 : wr.heap.size < w7.heap.size := blk_lt hblk; clear h hblk HI2 HBK))
                all_goals
                  go_wp2_with fail
                  go_ret3
                  rw [HRB.out]
                  exact ⟨_, rfl, HI3.out⟩
            · have qok : decide (okR (y1, rb)) = false := decide_eq_false hok
              have HRB := Aside0.mk (stop_says (e := 3) HD.out (next_form HW.out (by rw [HRD.out]; exact hok)))
              clear hok
              go_wp2_with fail
              go_region
              all_goals
                go_wp2_with fail
                go_region
              all_goals
                go_wp2_with (go_at_call 33; go_must (refine (RefRight_eq y1 rb rs _ HRS.out).mono ?_; rw [qok]; rintro e w6 ⟨rfl, h⟩; have HI2 := Aside0.mk ((((HI.out.alloc _).drew).drew).then_ h); clear h))
                go_ret3
                rw [HRB.out]
                exact ⟨_, rfl, HI2.out⟩
          · have q8 : (y8 != 165) = true := bne_iff_ne.mpr g8
            have HRB := Aside0.mk (stop_says (e := 0) HD.out (by unfold nextR; rw [if_pos (fun h => g8 (by rw [hy8, hn]; exact h.2.2.2))]))
            clear hn hy0 hy1 hy2 hy3 hy8
            go_wp2_with fail
            go_region
            all_goals
              go_wp2_with fail
              go_ret3
              rw [HRB.out]
              exact ⟨_, rfl, HI.out.drew⟩
        · have qn : decide ((b.length : Int) - (p : Int) - 9 < (n : Int)) = true := decide_eq_true (by omega)
          have HRB := Aside0.mk (stop_says (e := 0) HD.out (by unfold nextR; rw [if_pos (fun h => gn (by have h1 := h.2.2.1; rw [← hn, HDL.out] at h1; omega))]))
          clear hn hy0 hy1 hy2 hy3
          go_wp2_with fail
          go_region
          all_goals
            go_wp2_with fail
            go_ret3
            rw [HRB.out]
            exact ⟨_, rfl, HI.out.drew⟩
      · have q90 : (y0 == 90) = false := beq_eq_false_iff_ne.mpr g90
        have HRB := Aside0.mk (stop_says (e := 0) HD.out (by unfold nextR; rw [if_pos (fun h => g90 (hy0.trans h.2.1))]))
        clear hy0
        go_wp2_with fail
        go_ret3
        rw [HRB.out]
        exact ⟨_, rfl, HI.out⟩
    · have q9 : decide ((9 : Int) ≤ (b.length : Int) - (p : Int)) = false := decide_eq_false (by omega)
      have HRB := Aside0.mk (stop_says (e := 0) HD.out (by unfold nextR; rw [if_pos (fun h => g9 (by have h1 := h.1; rw [HDL.out] at h1; omega))]))
      go_wp2_with fail
      go_ret3
      rw [HRB.out]
      exact ⟨_, rfl, HI.out⟩
end Go.Proofs.Ytmbemlpmfklddaa.Own
