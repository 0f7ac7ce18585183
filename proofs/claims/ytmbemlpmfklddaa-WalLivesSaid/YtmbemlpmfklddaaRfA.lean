/- The reference's disk: a text, places, texts that wait; New, may, Size, zero. The reference's disk: what waits. The first bytes of what waits, done write by write: on lists. The reference's disk: Now. The reference's disk: Crash. The reference's noughts. The reference's disk: Read. same: of equal lists it says yes. -/
import Derived.Test.YtmbemlpmfklddaaLog1
import Derived.BigQuiet
import Derived.Deep.QuietTactic
namespace Go.Proofs.Ytmbemlpmfklddaa.Own
open Go.RowKit Go.Proofs.YtmbemlpmfklddaaW.PrintWords Go.Proofs.YtmbemlpmfklddaaW.PrintLast Go.Proofs.YtmbemlpmfklddaaW.PrintMore
def atsR (q : List (Int × List Int)) : List (List Value) := q.map (fun x => [.int .i64 x.1])
def txtR (q : List (Int × List Int)) : List (List Value) := q.map (fun x => [.string (strOfNums x.2)])
theorem atsR_len (q : List (Int × List Int)) : (atsR q).length = q.length := by simp [atsR]
theorem txtR_len (q : List (Int × List Int)) : (txtR q).length = q.length := by simp [txtR]
def refC (d : Dm) (va vt : Value) : Array Value := #[.string (strOfNums d.b), va, vt, .int .i64 d.fl, .int .i64 d.wr]
/-- The reference's disk, as things: its cells, its places, its texts. -/
abbrev RefH (w W : World) (g : Nat) (d : Dm) (va vt : Value) (Ps : List Thing) : Prop := Here w W (CellsT g (refC d va vt) 125 :: RawT 1 3 va (atsR d.q) :: RawT 1 9 vt (txtR d.q) :: Ps)
section
variable {w W : World} {Ps : List Thing} {g : Nat} {d : Dm} {va vt : Value}
theorem ref_cells (h : RefH w W g d va vt Ps) : W.cell? ⟨g, 0, none⟩ = some (.string (strOfNums d.b)) ∧ W.cell? ⟨g, 1, none⟩ = some va ∧ W.cell? ⟨g, 2, none⟩ = some vt ∧ W.cell? ⟨g, 3, none⟩ = some (.int .i64 d.fl) ∧ W.cell? ⟨g, 4, none⟩ = some (.int .i64 d.wr) := by
  have hb := Here.cells h
  exact ⟨cell_of_row W g 0 _ _ _ hb, cell_of_row W g 1 _ _ _ hb, cell_of_row W g 2 _ _ _ hb, cell_of_row W g 3 _ _ _ hb, cell_of_row W g 4 _ _ _ hb⟩
set_option maxHeartbeats 1000000 in
set_option maxRecDepth 100000 in
theorem RefNew (h : Here w W Ps) (n : Nat) (h1 : n ≤ 262144) :
    Calls Try.prog 37 #[.int .i64 n] W fun e W' => ∃ g, e = .returned (.pointer (some ⟨g, 0, none⟩)) ∧ RefH w W' g (Dm.new n) (.slice none 0 0) (.slice none 0 0) Ps := by
  have HH := Aside0.mk h
  have hmk := print_make (P := Try.prog) 22 5 .u8 1 Try.underlying22 info5 (by omega) n (by omega)
  obtain ⟨s, hs⟩ : ∃ s, s = strOfNums (List.replicate n 0) := ⟨_, rfl⟩
  have hcv : Sem.run Try.prog (convert 22 9 (.slice (some ⟨W.heap.size, 0, none⟩) n n)) (W.alloc (.cells (madeCells #[.int .u8 0] n) 5)) = .ok (.string s) (W.alloc (.cells (madeCells #[.int .u8 0] n) 5)) := by
    have hc := made_C W n (by omega)
    rw [List.length_replicate] at hc
    rw [hs]
    exact Kd.C_string Try.underlying22 Try.underlying5 Try.underlying9 hc
  have HS := Aside0.mk hs
  clear h hs
  go_enter Try.func37, Try.ntmps37
  go_wp2_with fail
  go_ret
  refine ⟨_, rfl, ?_⟩
  have hy := (((HH.out.alloc (.cells (madeCells #[.int .u8 0] n) 5)).addRaw 1 9).addRaw 1 3).newCells #[.string s, .slice none 0 0, .slice none 0 0, .int .i64 0, .int .i64 0] 125
  have e : (W.alloc (.cells (madeCells #[.int .u8 0] n) 5)).heap.size = W.heap.size + 1 := by simp
  rw [e] at hy
  have hr : refC (Dm.new n) (.slice none 0 0) (.slice none 0 0) = #[.string s, .slice none 0 0, .slice none 0 0, .int .i64 0, .int .i64 0] := by rw [HS.out]; rfl
  unfold RefH
  rw [hr]
  exact hy
set_option maxHeartbeats 1000000 in
set_option maxRecDepth 100000 in
theorem RefSize (h : RefH w W g d va vt Ps) (h1 : 32 ≤ d.b.length) (h2 : d.b.length ≤ 262144) :
    Calls Try.prog 78 #[.pointer (some ⟨g, 0, none⟩)] W fun e W' => e = .returned (.int .i64 (Sz d)) ∧ W = W' := by
  obtain ⟨c0, c1, c2, c3, c4⟩ := ref_cells h
  have hl : (strOfNums d.b).size = d.b.length := strOfNums_size _
  generalize strOfNums d.b = s at c0 hl
  have u1 : IntKind.i64.wrap ((d.b.length : Int) - 32) = (d.b.length : Int) - 32 := IntWalk.i64_in _ ⟨by omega, by omega⟩
  have u2 : IntKind.i64.wrap (((d.b.length : Int) - 32).tdiv 2) = (Sz d : Int) := by
    rw [Int.tdiv_eq_ediv_of_nonneg (by omega)]
    unfold Sz
    rw [show ((d.b.length : Int) - 32) / 2 = (((d.b.length - 32) / 2 : Nat) : Int) by omega]
    exact IntWalk.i64_in _ ⟨by omega, by omega⟩
  clear h c1 c2 c3 c4
  go_enter Try.func78, Try.ntmps78
  go_wp2_with fail
  go_ret
  exact ⟨rfl, rfl⟩
set_option maxHeartbeats 1000000 in
set_option maxRecDepth 100000 in
theorem RefMay (h : RefH w W g d va vt Ps) (p n : Int) (hp : -9223372036854775808 ≤ p ∧ p ≤ 9223372036854775807) (hn : 0 ≤ n ∧ n ≤ 9223372036854775807) (h2 : d.b.length ≤ 262144) :
    Calls Try.prog 69 #[.pointer (some ⟨g, 0, none⟩), .int .i64 p, .int .i64 n] W fun e W' => e = .returned (.bool (decide (d.fits p n))) ∧ W = W' := by
  obtain ⟨c0, c1, c2, c3, c4⟩ := ref_cells h
  have hl : (strOfNums d.b).size = d.b.length := strOfNums_size _
  generalize strOfNums d.b = s at c0 hl
  clear h c1 c2 c3 c4
  have q2 : decide ((0 : Int) ≤ n) = true := decide_eq_true hn.1
  by_cases k1 : 0 ≤ p
  · have q1 : decide ((0 : Int) ≤ p) = true := decide_eq_true k1
    by_cases k3 : p ≤ d.b.length
    · have q3 : decide (p ≤ (d.b.length : Int)) = true := decide_eq_true k3
      have u1 : IntKind.i64.wrap ((d.b.length : Int) - p) = (d.b.length : Int) - p := IntWalk.i64_in _ ⟨by omega, by omega⟩
      have HD := Aside0.mk (show decide (d.fits p n) = decide (n ≤ (d.b.length : Int) - p) from decide_eq_decide.2 ⟨fun ⟨_, _, h⟩ => by omega, fun h => ⟨k1, hn.1, by omega⟩⟩)
      go_enter Try.func69, Try.ntmps69
      go_wp2_with fail
      go_ret
      exact ⟨by rw [HD.out]; rfl, rfl⟩
    · have q3 : decide (p ≤ (d.b.length : Int)) = false := decide_eq_false k3
      have HD := Aside0.mk (show decide (d.fits p n) = false from decide_eq_false (fun ⟨_, _, h⟩ => by omega))
      go_enter Try.func69, Try.ntmps69
      go_wp2_with fail
      go_ret
      exact ⟨by rw [HD.out]; rfl, rfl⟩
  · have q1 : decide ((0 : Int) ≤ p) = false := decide_eq_false k1
    have HD := Aside0.mk (show decide (d.fits p n) = false from decide_eq_false (fun ⟨h, _, _⟩ => by omega))
    go_enter Try.func69, Try.ntmps69
    go_wp2_with fail
    go_ret
    exact ⟨by rw [HD.out]; rfl, rfl⟩
end
end Go.Proofs.Ytmbemlpmfklddaa.Own
namespace Go.Proofs.Ytmbemlpmfklddaa.Own
open Go.RowKit Go.Proofs.YtmbemlpmfklddaaW.PrintWords Go.Proofs.YtmbemlpmfklddaaW.PrintLast Go.Proofs.YtmbemlpmfklddaaW.PrintMore
def waitsQ (q : List (Int × List Int)) : Nat := (q.map fun w => w.2.length).sum
theorem waitsQ_take {q : List (Int × List Int)} {k : Nat} (hk : k < q.length) : waitsQ (q.take (k + 1)) = waitsQ (q.take k) + q[k].2.length := by
  unfold waitsQ
  rw [List.take_add_one, List.getElem?_eq_getElem hk, List.map_append, List.sum_append]
  simp
theorem waitsQ_le {q : List (Int × List Int)} {n : Nat} (h : ∀ w ∈ q, w.2.length ≤ n) : waitsQ q ≤ q.length * n := by
  induction q with
  | nil => simp [waitsQ]
  | cons w q ih =>
    have h1 := ih (fun v hv => h v (List.mem_cons_of_mem _ hv))
    have h2 := h w List.mem_cons_self
    have e : waitsQ (w :: q) = w.2.length + waitsQ q := by simp [waitsQ]
    rw [e, List.length_cons, Nat.succ_mul]
    omega
section
variable {w W : World} {Ps : List Thing} {g : Nat} {d : Dm} {va vt : Value}
theorem ref_txt (h : RefH w W g d va vt Ps) : ∃ A c, vt = .slice A d.q.length c ∧ (Kd.raw 1).C W A d.q.length (txtR d.q) := by
  obtain ⟨A, c, e, _, hC⟩ := (h.third).raw
  rw [txtR_len] at e hC
  exact ⟨A, c, e, hC⟩
theorem ref_ats (h : RefH w W g d va vt Ps) : ∃ A c, va = .slice A d.q.length c ∧ (Kd.raw 1).C W A d.q.length (atsR d.q) := by
  obtain ⟨A, c, e, _, hC⟩ := (h.swap).raw
  rw [atsR_len] at e hC
  exact ⟨A, c, e, hC⟩
theorem fit_len {d : Dm} (ho : d.Ok) : ∀ w ∈ d.q, w.2.length ≤ 262144 := by
  intro w hw
  have h1 := ho.fit w hw
  have h2 := ho.hi
  omega
set_option maxHeartbeats 2000000 in
set_option maxRecDepth 100000 in
theorem RefWaits (h : RefH w W g d va vt Ps) (ho : d.Ok) (hq : d.q.length ≤ 1000000) :
    Calls Try.prog 71 #[.pointer (some ⟨g, 0, none⟩)] W fun e W' => e = .returned (.int .i64 d.waits) ∧ W = W' := by
  obtain ⟨c0, c1, c2, c3, c4⟩ := ref_cells h
  obtain ⟨At, ct, rfl, hC⟩ := ref_txt h
  have HC := Aside0.mk hC
  have HFL := Aside0.mk (fit_len ho)
  obtain ⟨q, hqq⟩ : ∃ q, q = d.q := ⟨_, rfl⟩
  have HW := Aside0.mk (show d.waits = waitsQ q by rw [hqq]; rfl)
  rw [← hqq] at c2 hq HC HFL
  have HWB := Aside0.mk (show ∀ k, waitsQ (q.take k) ≤ 262144000000 by
    intro k
    have h1 := waitsQ_le (q := q.take k) (n := 262144) (fun w hw => HFL.out w (List.mem_of_mem_take hw))
    have h2 : (q.take k).length ≤ 1000000 := by rw [List.length_take]; omega
    have h3 := Nat.mul_le_mul_right 262144 h2
    omega)
  clear h hC c0 c1 c3 c4 hqq ho
  go_enter Try.func71, Try.ntmps71
  go_wp2_with fail
  go_loopw [3, 4] (fun v3 v4 wr => ∃ (k s : Nat), v4 = .int .i64 k ∧ v3 = .int .i64 s ∧ k ≤ q.length ∧ wr = W ∧ s ≤ 262144000000 ∧ Aside0 (s = waitsQ (q.take k))) (fun _ v4 _ => q.length - (intOf v4).toNat)
  case atStart => exact ⟨0, 0, rfl, rfl, by omega, rfl, by omega, ⟨rfl⟩⟩
  case round =>
    obtain ⟨k, s, rfl, rfl, hk, rfl, hsb, HS⟩ := hrel
    by_cases hlt : k < q.length
    · have q1 : decide ((k : Int) < (q.length : Int)) = true := decide_eq_true (by omega)
      have u1 : IntKind.i64.wrap ((k : Int) + 1) = (k : Int) + 1 := IntWalk.i64_in _ ⟨by omega, by omega⟩
      obtain ⟨ad, hA, e0⟩ := atRaw1 (i := k) (u := .string (strOfNums q[k].2)) HC.out (by unfold txtR; rw [List.getElem?_map, List.getElem?_eq_getElem hlt]; rfl)
      subst hA
      have hl : (strOfNums q[k].2).size = q[k].2.length := strOfNums_size _
      have HT := Aside0.mk (waitsQ_take hlt)
      have hb := HWB.out (k + 1)
      rw [HT.out, ← HS.out] at hb
      generalize strOfNums q[k].2 = t at e0 hl
      generalize q[k].2.length = n at hl HT hb
      have u2 : IntKind.i64.wrap ((s : Int) + (n : Int)) = (s : Int) + (n : Int) := IntWalk.i64_in _ ⟨by omega, by omega⟩
      go_wp2_with fail
      go_roundw
      case rel => exact ⟨k + 1, s + n, by go_num, by go_num, by omega, by first | trivial | rfl, by omega, ⟨by rw [HT.out, HS.out]⟩⟩
      case measure => simp [intOf]; omega
    · have q1 : decide ((k : Int) < (q.length : Int)) = false := decide_eq_false (by omega)
      obtain rfl : k = q.length := by omega
      have HE := Aside0.mk (show s = d.waits by rw [HS.out, HW.out, List.take_length])
      go_wp2_with fail
      go_ret
      exact ⟨by rw [← HE.out]; rfl, rfl⟩
end
end Go.Proofs.Ytmbemlpmfklddaa.Own
namespace Go.Proofs.Ytmbemlpmfklddaa.Own
open Go.RowKit
theorem zipIdx_cut : ∀ (l : List Int) (k n : Nat), (l.zipIdx n).take k = (l.take k).zipIdx n
  | [], k, n => by simp
  | x :: l, 0, n => by simp
  | x :: l, k + 1, n => by
    rw [List.zipIdx_cons, List.take_succ_cons, List.take_succ_cons, List.zipIdx_cons, zipIdx_cut l k (n + 1)]
theorem pendOf_cut (x : Int × List Int) (k : Nat) : (pendOf x).take k = pendOf (x.1, x.2.take k) := by
  unfold pendOf
  rw [← List.map_take, zipIdx_cut]
/-- What is left to do behind k writes: of out, with so many bytes that may still last. -/
structure Upto (d : Dm) (L : Int) (k : Nat) (out : List Int) (left : Int) : Prop where
  say : putAll d.b ((pend d.q).take L.toNat) = putAll out ((pend (d.q.drop k)).take left.toNat)
  len : out.length = d.b.length
  le : left ≤ L
  ge : left = L ∨ 0 ≤ left
theorem Upto.start (d : Dm) (L : Int) : Upto d L 0 d.b L := ⟨rfl, rfl, Int.le_refl _, .inl rfl⟩
theorem Upto.last {d : Dm} {L left : Int} {out : List Int} (h : Upto d L d.q.length out left) : out = (d.settle L).b := by
  have := h.say
  rw [List.drop_length] at this
  simp [pend, putAll] at this
  unfold Dm.settle
  rw [← this]
  simp [pend, putAll]
/-- One write more. -/
theorem Upto.step {d : Dm} (ho : d.Ok) {L left : Int} {k : Nat} {out : List Int} (h : Upto d L k out left) (hk : k < d.q.length) :
    (left ≤ 0 ∨ d.q[k].2.length = 0 → Upto d L (k + 1) out left) ∧
      (∀ n : Nat, 0 < n → ((n : Int) = left ∧ n ≤ d.q[k].2.length ∨ n = d.q[k].2.length ∧ (n : Int) ≤ left) → Upto d L (k + 1) (splice out d.q[k].1.toNat (d.q[k].2.take n)) (left - n)) := by
  have hf := ho.fit _ (List.getElem_mem hk)
  have hd : d.q.drop k = d.q[k] :: d.q.drop (k + 1) := List.drop_eq_getElem_cons hk
  have hl := h.len
  have e : pend (d.q.drop k) = pendOf d.q[k] ++ pend (d.q.drop (k + 1)) := by
    rw [hd]
    rfl
  have hs := h.say
  rw [e, List.take_append, pendOf_length, pendOf_cut, putAll_append] at hs
  have hp : ∀ t : List Int, t.length ≤ d.q[k].2.length → putAll out (pendOf (d.q[k].1, t)) = splice out d.q[k].1.toNat t := fun t ht => putAll_pendOf (w := (d.q[k].1, t)) (by simp only; omega)
  have htl : (d.q[k].2.take left.toNat).length ≤ d.q[k].2.length := by rw [List.length_take]; omega
  rw [hp _ htl] at hs
  refine ⟨fun hz => ?_, fun n hn hcs => ?_⟩
  · have e1 : d.q[k].2.take left.toNat = [] := by
      rcases hz with hz | hz
      · rw [show left.toNat = 0 by omega]
        rfl
      · rw [List.length_eq_zero_iff.1 hz, List.take_nil]
    have e2 : splice out d.q[k].1.toNat [] = out := by
      unfold splice
      simp
    rw [e1, e2] at hs
    refine ⟨?_, hl, h.le, h.ge⟩
    rw [hs]
    congr 2
    rcases hz with hz | hz <;> omega
  · have e1 : d.q[k].2.take left.toNat = d.q[k].2.take n := by
      rcases hcs with ⟨h1, _⟩ | ⟨h1, h2⟩
      · rw [← h1, Int.toNat_natCast]
      · rw [List.take_of_length_le (by omega), List.take_of_length_le (by omega)]
    rw [e1] at hs
    have hle := h.le
    refine ⟨?_, ?_, by omega, .inr (by omega)⟩
    · rw [hs]
      congr 2
      rcases hcs with ⟨h1, h2⟩ | ⟨h1, h2⟩ <;> omega
    · rw [splice_length (by rw [List.length_take]; omega)]
      exact hl
end Go.Proofs.Ytmbemlpmfklddaa.Own
namespace Go.Proofs.Ytmbemlpmfklddaa.Own
open Go.RowKit Go.Proofs.YtmbemlpmfklddaaW.PrintWords Go.Proofs.YtmbemlpmfklddaaW.PrintLast Go.Proofs.YtmbemlpmfklddaaW.PrintMore
theorem strs_append (xs ys : List Int) : strOfNums (xs ++ ys) = strOfNums xs ++ strOfNums ys := by
  apply ByteArray.ext
  simp [strOfNums]
theorem strs_extract (b : List Int) (i n : Nat) : (strOfNums b).extract i (i + n) = strOfNums ((b.drop i).take n) := by
  apply ByteArray.ext
  simp [strOfNums, ByteArray.data_extract]
theorem strs_take (b : List Int) (n : Nat) : (strOfNums b).extract 0 n = strOfNums (b.take n) := by
  have := strs_extract b 0 n
  rwa [Nat.zero_add, List.drop_zero] at this
theorem strs_drop (b : List Int) (n : Nat) (h : n ≤ b.length) : (strOfNums b).extract n b.length = strOfNums (b.drop n) := by
  have := strs_extract b n (b.length - n)
  rwa [show n + (b.length - n) = b.length by omega, List.take_of_length_le (by rw [List.length_drop]; omega)] at this
section
variable {w W : World} {Ps : List Thing} {g : Nat} {d : Dm} {va vt : Value}
set_option maxHeartbeats 4000000 in
set_option maxRecDepth 100000 in
theorem RefNow (h : RefH w W g d va vt Ps) (ho : d.Ok) (hq : d.q.length ≤ 1000000) (L : Int) (hL : -9223372036854775808 ≤ L ∧ L ≤ 9223372036854775807) :
    Calls Try.prog 80 #[.pointer (some ⟨g, 0, none⟩), .int .i64 L] W fun e W' => e = .returned (.string (strOfNums (d.settle L).b)) ∧ Below W.heap.size W W' := by
  obtain ⟨c0, c1, c2, c3, c4⟩ := ref_cells h
  obtain ⟨At, ct, rfl, hCt⟩ := ref_txt h
  obtain ⟨Aa, ca, rfl, hCa⟩ := ref_ats h
  have HCT := Aside0.mk hCt
  have HCA := Aside0.mk hCa
  have HO := Aside0.mk ho
  have HH := Aside0.mk h
  have hlo := ho.lo
  have hhi := ho.hi
  obtain ⟨s0, hs0⟩ : ∃ s0, s0 = strOfNums d.b := ⟨_, rfl⟩
  rw [← hs0] at c0
  have HS0 := Aside0.mk hs0
  have K := Aside0.mk (And.intro c1 c2)
  clear h hCt hCa ho c3 c4 hs0 c1 c2
  go_enter Try.func80, Try.ntmps80
  go_wp2_with fail
  go_loopw [1, 5, 6] (fun v1 v5 v6 wr => ∃ (k : Nat) (left : Int) (out : List Int) (s : ByteArray), v6 = .int .i64 k ∧ v1 = .int .i64 left ∧ v5 = .string s ∧ k ≤ d.q.length ∧ (-9223372036854775808 ≤ left ∧ left ≤ 9223372036854775807) ∧
      Aside0 (s = strOfNums out) ∧ Aside0 (Upto d L k out left) ∧ Aside0 (Below W.heap.size W wr)) (fun _ _ v6 _ => d.q.length - (intOf v6).toNat)
  case atStart => exact ⟨0, L, d.b, s0, rfl, rfl, rfl, by omega, hL, HS0, ⟨Upto.start d L⟩, ⟨Below.refl _ _⟩⟩
  case round =>
    clear c0
    obtain ⟨k, left, out, s, rfl, rfl, rfl, hk, hlr, HS, HU, HB⟩ := hrel
    have c1 := pw_cell_below HB.out K.out.1
    have c2 := pw_cell_below HB.out K.out.2
    by_cases hlt : k < d.q.length
    · have q1 : decide ((k : Int) < (d.q.length : Int)) = true := decide_eq_true (by omega)
      have u1 : IntKind.i64.wrap ((k : Int) + 1) = (k : Int) + 1 := IntWalk.i64_in _ ⟨by omega, by omega⟩
      obtain ⟨adt, hAt, e1⟩ := atRaw1 (i := k) (u := .string (strOfNums d.q[k].2)) HCT.out (by unfold txtR; rw [List.getElem?_map, List.getElem?_eq_getElem hlt]; rfl)
      obtain ⟨ada, hAa, e2⟩ := atRaw1 (i := k) (u := .int .i64 d.q[k].1) HCA.out (by unfold atsR; rw [List.getElem?_map, List.getElem?_eq_getElem hlt]; rfl)
      subst hAt hAa
      replace e1 := pw_cell_below HB.out e1
      replace e2 := pw_cell_below HB.out e2
      have hf := HO.out.fit _ (List.getElem_mem hlt)
      have HST := Aside0.mk (HU.out.step HO.out hlt)
      have HUL := Aside0.mk HU.out.len
      have hol : s.size = d.b.length := by rw [HS.out, strOfNums_size, HUL.out]
      have htl : (strOfNums d.q[k].2).size = d.q[k].2.length := strOfNums_size _
      obtain ⟨t, ht⟩ : ∃ t, t = strOfNums d.q[k].2 := ⟨_, rfl⟩
      have HTE := Aside0.mk ht
      rw [← ht] at e1 htl
      clear ht
      generalize d.q[k] = wk at e1 e2 hf HST htl HTE
      obtain ⟨pi, l⟩ := wk
      simp only at e1 e2 hf HST htl HTE
      obtain ⟨p, rfl⟩ : ∃ p : Nat, pi = p := ⟨pi.toNat, by omega⟩
      by_cases hz : left ≤ 0 ∨ l.length = 0
      · have HUN := Aside0.mk (HST.out.1 hz)
        have hcs : (decide (left < (l.length : Int)) = true ∧ left < l.length ∧ decide ((0 : Int) < left) = false ∧ ¬ 0 < left) ∨ (decide (left < (l.length : Int)) = false ∧ ¬ left < l.length ∧ l.length = 0) := by
          by_cases h1 : left < l.length
          · exact .inl ⟨decide_eq_true h1, h1, decide_eq_false (by omega), by omega⟩
          · exact .inr ⟨decide_eq_false h1, h1, by omega⟩
        clear hz
        rcases hcs with ⟨p1, p2, p3, p4⟩ | ⟨p1, p2, p3⟩
        · go_wp2_with fail
          go_roundw
          case rel => exact ⟨k + 1, left, out, s, by go_num, rfl, rfl, by omega, hlr, HS, HUN, HB⟩
          case measure => simp [intOf]; omega
        · have p4 : decide ((0 : Int) < (l.length : Int)) = false := decide_eq_false (by omega)
          have p5 : ¬ 0 < l.length := by omega
          go_wp2_with fail
          go_roundw
          case rel => exact ⟨k + 1, left, out, s, by go_num, rfl, rfl, by omega, hlr, HS, HUN, HB⟩
          case measure => simp [intOf]; omega
      · obtain ⟨n, hn0, hcs, hnl, hnv⟩ : ∃ n : Nat, 0 < n ∧ ((n : Int) = left ∧ n ≤ l.length ∨ n = l.length ∧ (n : Int) ≤ left) ∧ n ≤ l.length ∧
            ((decide (left < (l.length : Int)) = true ∧ left < l.length ∧ left = (n : Int)) ∨ (decide (left < (l.length : Int)) = false ∧ ¬ left < l.length ∧ l.length = n)) := by
          by_cases h1 : left < l.length
          · exact ⟨left.toNat, by omega, .inl ⟨by omega, by omega⟩, by omega, .inl ⟨decide_eq_true h1, h1, by omega⟩⟩
          · exact ⟨l.length, by omega, .inr ⟨rfl, by omega⟩, Nat.le_refl _, .inr ⟨decide_eq_false h1, h1, rfl⟩⟩
        have HUN := Aside0.mk (HST.out.2 n hn0 hcs)
        obtain ⟨s1, hs1⟩ : ∃ s1, s1 = strOfNums (out.take p) := ⟨_, rfl⟩
        obtain ⟨s2, hs2⟩ : ∃ s2, s2 = strOfNums (l.take n) := ⟨_, rfl⟩
        obtain ⟨s3, hs3⟩ : ∃ s3, s3 = strOfNums (out.drop (p + n)) := ⟨_, rfl⟩
        have m1 : s.extract 0 p = s1 := by rw [HS.out, hs1, strs_take]
        have m2 : t.extract 0 n = s2 := by rw [HTE.out, hs2, strs_take]
        have m3 : s.extract ((p : Int) + (n : Int)).toNat d.b.length = s3 := by
          rw [show ((p : Int) + (n : Int)).toNat = p + n by omega, HS.out, hs3, ← HUL.out, strs_drop out (p + n) (by rw [HUL.out]; omega)]
        have HNS := Aside0.mk (show (s1 ++ s2) ++ s3 = strOfNums (splice out p (l.take n)) by
          unfold splice
          rw [show (l.take n).length = n by rw [List.length_take]; omega, strs_append, strs_append, hs1, hs2, hs3])
        have b1 : (0 : Int) ≤ p ∧ (p : Int) ≤ d.b.length := ⟨by omega, by omega⟩
        have b2 : (0 : Int) ≤ (p : Int) + (n : Int) ∧ (p : Int) + (n : Int) ≤ d.b.length := ⟨by omega, by omega⟩
        have b3 : p ≤ d.b.length := by omega
        have u2 : IntKind.i64.wrap ((p : Int) + (n : Int)) = (p : Int) + (n : Int) := IntWalk.i64_in _ ⟨by omega, by omega⟩
        have u3 : IntKind.i64.wrap (left - (n : Int)) = left - (n : Int) := IntWalk.i64_in _ ⟨by omega, by omega⟩
        have p3 : decide ((0 : Int) < (n : Int)) = true := decide_eq_true (by omega)
        have hlr2 : -9223372036854775808 ≤ left - (n : Int) ∧ left - (n : Int) ≤ 9223372036854775807 := ⟨by omega, by omega⟩
        have z1 : s1.size = p := by rw [hs1, strOfNums_size, List.length_take, HUL.out]; omega
        have z2 : s2.size = n := by rw [hs2, strOfNums_size, List.length_take]; omega
        obtain ⟨r3, hr3⟩ : ∃ r3, r3 = d.b.length - (p + n) := ⟨_, rfl⟩
        have z3 : s3.size = r3 := by rw [hs3, strOfNums_size, List.length_drop, HUL.out, hr3]
        have z4 : ¬ 9223372036854775807 < p + n := by omega
        have z5 : ¬ 9223372036854775807 < p + n + r3 := by omega
        clear hz hs1 hs2 hs3 hcs hr3
        have b4 : n ≤ t.size := by rw [htl]; exact hnl
        rcases hnv with ⟨p1, p2, hle⟩ | ⟨p1, p2, hle⟩
        · subst hle
          go_wp2_with fail
          go_quiet (fail)
          go_wp2_with fail
          go_roundw
          case rel =>
            have HU0 := HUN.out
            rw [Int.sub_self] at HU0
            exact ⟨k + 1, _, _, s1 ++ s2 ++ s3, by go_num, rfl, rfl, by omega, ⟨by omega, by omega⟩, HNS, ⟨HU0⟩, ⟨below_step HB.out (pw_below_drewN (Below.refl _ _) nq)⟩⟩
          case measure => simp [intOf]; omega
        · subst hle
          go_wp2_with fail
          go_quiet (fail)
          go_wp2_with fail
          go_roundw
          case rel => exact ⟨k + 1, _, _, s1 ++ s2 ++ s3, by go_num, rfl, rfl, by omega, hlr2, HNS, HUN, ⟨below_step HB.out (pw_below_drewN (Below.refl _ _) nq)⟩⟩
          case measure => simp [intOf]; omega
    · have q1 : decide ((k : Int) < (d.q.length : Int)) = false := decide_eq_false (by omega)
      obtain rfl : k = d.q.length := by omega
      have HE := Aside0.mk (HU.out.last)
      go_wp2_with fail
      go_ret
      exact ⟨by rw [← HE.out, ← HS.out]; rfl, HB.out⟩
end
end Go.Proofs.Ytmbemlpmfklddaa.Own
namespace Go.Proofs.Ytmbemlpmfklddaa.Own
open Go.RowKit Go.Proofs.YtmbemlpmfklddaaW.PrintWords Go.Proofs.YtmbemlpmfklddaaW.PrintLast Go.Proofs.YtmbemlpmfklddaaW.PrintMore
section
variable {w W : World} {Ps : List Thing} {g : Nat} {d : Dm} {va vt : Value}
set_option maxHeartbeats 2000000 in
set_option maxRecDepth 100000 in
theorem RefCrash (now : ∀ (W : World), RefH w W g d va vt Ps → ∀ L : Int, -9223372036854775808 ≤ L ∧ L ≤ 9223372036854775807 → Calls Try.prog 80 #[.pointer (some ⟨g, 0, none⟩), .int .i64 L] W fun e W' => e = .returned (.string (strOfNums (d.settle L).b)) ∧ Below W.heap.size W W')
    (h : RefH w W g d va vt Ps) (L : Int) (hL : -9223372036854775808 ≤ L ∧ L ≤ 9223372036854775807) :
    Calls Try.prog 70 #[.pointer (some ⟨g, 0, none⟩), .int .i64 L] W fun e W' => e = .returned (.tuple #[]) ∧ RefH w W' g (d.settle L) (.slice none 0 0) (.slice none 0 0) Ps := by
  have HH := Aside0.mk h
  obtain ⟨s, hs⟩ : ∃ s, s = strOfNums (d.settle L).b := ⟨_, rfl⟩
  have HS := Aside0.mk hs
  clear h hs
  go_enter Try.func70, Try.ntmps70
  go_wp2_with (go_at_call 80; go_must (refine (now _ HH.out L hL).mono ?_; rw [← HS.out]; rintro e w1 ⟨rfl, hb⟩; have HK := Aside0.mk (HH.out.then_ hb : RefH w w1 g d va vt Ps); clear hb HH; obtain ⟨c0, c1, c2, c3, c4⟩ := ref_cells HK.out; have f0 := blk_frozen (Here.cells HK.out) 0; have f1 := blk_frozen (Here.cells HK.out) 1; have f2 := blk_frozen (Here.cells HK.out) 2))
  go_end0
  refine ⟨rfl, ?_⟩
  have hy := ((HK.out.putCell 0 (.string s)).putCell 1 (.slice none 0 0)).putCell 2 (.slice none 0 0)
  have hz := (((hy.swap.drop.swap.drop).addRaw 1 9).addRaw 1 3).third
  rw [HS.out] at hz ⊢
  exact hz
set_option maxHeartbeats 2000000 in
set_option maxRecDepth 100000 in
theorem RefFlush (now : ∀ (W : World), RefH w W g d va vt Ps → ∀ L : Int, -9223372036854775808 ≤ L ∧ L ≤ 9223372036854775807 → Calls Try.prog 80 #[.pointer (some ⟨g, 0, none⟩), .int .i64 L] W fun e W' => e = .returned (.string (strOfNums (d.settle L).b)) ∧ Below W.heap.size W W')
    (h : RefH w W g d va vt Ps) (ho : d.Ok) (hq : d.q.length ≤ 1000000) :
    Calls Try.prog 39 #[.pointer (some ⟨g, 0, none⟩)] W fun e W' => e = .returned (.tuple #[]) ∧ RefH w W' g d.flush (.slice none 0 0) (.slice none 0 0) Ps := by
  have HH := Aside0.mk h
  have HO := Aside0.mk ho
  obtain ⟨wt, hwt⟩ : ∃ wt, wt = d.waits := ⟨_, rfl⟩
  have HWT := Aside0.mk hwt
  have hwb : wt ≤ 262144000000 := by
    have h1 := waitsQ_le (q := d.q) (n := 262144) (fit_len ho)
    have h2 := Nat.mul_le_mul_right 262144 hq
    have h3 : d.waits = waitsQ d.q := rfl
    omega
  have HE := Aside0.mk (show (d.settle (wt : Int)).b = d.now from Dm.settle_all ho (by rw [hwt]; exact Int.le_refl _))
  clear h ho hwt
  go_enter Try.func39, Try.ntmps39
  go_wp2_with (first
    | (go_at_call 71; go_must (refine (RefWaits HH.out HO.out hq).mono ?_; rw [← HWT.out]; rintro e w1 ⟨rfl, rfl⟩))
    | (go_at_call 70; go_must (refine (RefCrash now HH.out (wt : Int) ⟨by omega, by omega⟩).mono ?_; rintro e w2 ⟨rfl, h⟩; have HK := Aside0.mk h; clear h HH; obtain ⟨c0, c1, c2, c3, c4⟩ := ref_cells HK.out; have f3 := blk_frozen (Here.cells HK.out) 3)))
  go_end0
  refine ⟨rfl, ?_⟩
  have hy := HK.out.putCell 3 (.int .i64 (wrap64 (d.fl + 1)))
  have hr : refC d.flush (.slice none 0 0) (.slice none 0 0) = (refC (d.settle (wt : Int)) (.slice none 0 0) (.slice none 0 0)).setIfInBounds 3 (.int .i64 (wrap64 (d.fl + 1))) := by
    unfold refC
    rw [HE.out]
    rfl
  unfold RefH
  rw [hr]
  exact hy
end
end Go.Proofs.Ytmbemlpmfklddaa.Own
namespace Go.Proofs.Ytmbemlpmfklddaa.Own
open Go.RowKit Go.Proofs.YtmbemlpmfklddaaW.PrintWords Go.Proofs.YtmbemlpmfklddaaW.PrintLast Go.Proofs.YtmbemlpmfklddaaW.PrintMore
set_option maxHeartbeats 1000000 in
set_option maxRecDepth 100000 in
theorem RefZero (n : Nat) (W : World) (h1 : n ≤ 262144) : Calls Try.prog 79 #[.int .i64 n] W fun e W' => e = .returned (.string (strOfNums (List.replicate n 0))) ∧ Below W.heap.size W W' := by
  have hmk := print_make (P := Try.prog) 22 5 .u8 1 Try.underlying22 info5 (by omega) n (by omega)
  obtain ⟨s, hs⟩ : ∃ s, s = strOfNums (List.replicate n 0) := ⟨_, rfl⟩
  have hcv : Sem.run Try.prog (convert 22 9 (.slice (some ⟨W.heap.size, 0, none⟩) n n)) (W.alloc (.cells (madeCells #[.int .u8 0] n) 5)) = .ok (.string s) (W.alloc (.cells (madeCells #[.int .u8 0] n) 5)) := by
    have hc := made_C W n (by omega)
    rw [List.length_replicate] at hc
    rw [hs]
    exact Kd.C_string Try.underlying22 Try.underlying5 Try.underlying9 hc
  have HS := Aside0.mk hs
  clear hs
  go_enter Try.func79, Try.ntmps79
  go_wp2_with fail
  go_ret
  exact ⟨by rw [HS.out]; rfl, below_alloc (Below.refl _ _) _⟩
end Go.Proofs.Ytmbemlpmfklddaa.Own
namespace Go.Proofs.Ytmbemlpmfklddaa.Own
open Go.RowKit Go.Proofs.YtmbemlpmfklddaaW.PrintWords Go.Proofs.YtmbemlpmfklddaaW.PrintLast Go.Proofs.YtmbemlpmfklddaaW.PrintMore
section
variable {w W : World} {Ps : List Thing} {g : Nat} {d : Dm} {va vt : Value}
set_option maxHeartbeats 2000000 in
set_option maxRecDepth 100000 in
theorem RefRead12 (now : ∀ (W : World), RefH w W g d va vt Ps → ∀ L : Int, -9223372036854775808 ≤ L ∧ L ≤ 9223372036854775807 → Calls Try.prog 80 #[.pointer (some ⟨g, 0, none⟩), .int .i64 L] W fun e W' => e = .returned (.string (strOfNums (d.settle L).b)) ∧ Below W.heap.size W W')
    (h : RefH w W g d va vt Ps) (ho : d.Ok) (hq : d.q.length ≤ 1000000) (p n : Nat) (hf : d.fits p n) :
    Calls Try.prog 43 #[.pointer (some ⟨g, 0, none⟩), .int .i64 p, .int .i64 n] W fun e W' => e = .returned (.tuple #[.string (strOfNums (d.read p n)), .int .i64 0]) ∧ RefH w W' g d va vt Ps := by
  have HH := Aside0.mk h
  have HO := Aside0.mk ho
  have hhi := ho.hi
  obtain ⟨_, _, hf3⟩ := hf
  have HM := Aside0.mk (show decide (d.fits p n) = true from decide_eq_true ⟨by omega, by omega, hf3⟩)
  obtain ⟨wt, hwt⟩ : ∃ wt, wt = d.waits := ⟨_, rfl⟩
  have HWT := Aside0.mk hwt
  have hwb : wt ≤ 262144000000 := by
    have h1 := waitsQ_le (q := d.q) (n := 262144) (fit_len ho)
    have h2 := Nat.mul_le_mul_right 262144 hq
    have h3 : d.waits = waitsQ d.q := rfl
    omega
  have HE := Aside0.mk (show (d.settle (wt : Int)).b = d.now from Dm.settle_all ho (by rw [hwt]; exact Int.le_refl _))
  obtain ⟨s, hs⟩ : ∃ s, s = strOfNums d.now := ⟨_, rfl⟩
  have hsz : s.size = d.b.length := by rw [hs, strOfNums_size, Dm.now_length ho]
  obtain ⟨t, ht⟩ : ∃ t, t = strOfNums (d.read p n) := ⟨_, rfl⟩
  have m1 : s.extract p ((p : Int) + (n : Int)).toNat = t := by
    rw [show ((p : Int) + (n : Int)).toNat = p + n by omega, hs, ht]
    apply ByteArray.ext
    simp [strOfNums, ByteArray.data_extract, Dm.read]
  have HS := Aside0.mk hs
  have HT := Aside0.mk ht
  have u1 : IntKind.i64.wrap ((p : Int) + (n : Int)) = (p : Int) + (n : Int) := IntWalk.i64_in _ ⟨by omega, by omega⟩
  have b1 : (0 : Int) ≤ p ∧ (p : Int) ≤ (p : Int) + (n : Int) := ⟨by omega, by omega⟩
  have b2 : (p : Int) + (n : Int) ≤ d.b.length := by omega
  clear h ho hwt hs ht
  go_enter Try.func43, Try.ntmps43
  go_wp2_with (first
    | (go_at_call 69; go_must (refine (RefMay HH.out p n ⟨by omega, by omega⟩ ⟨by omega, by omega⟩ hhi).mono ?_; rw [HM.out]; rintro e w1 ⟨rfl, rfl⟩))
    | (go_at_call 71; go_must (refine (RefWaits HH.out HO.out hq).mono ?_; rw [← HWT.out]; rintro e w1 ⟨rfl, rfl⟩))
    | (go_at_call 80; go_must (refine (now _ HH.out (wt : Int) ⟨by omega, by omega⟩).mono ?_; rw [HE.out, ← HS.out]; rintro e w2 ⟨rfl, hb⟩; have HK := Aside0.mk (HH.out.then_ hb : RefH w w2 g d va vt Ps); clear hb)))
  go_ret2
  exact ⟨by rw [← HT.out]; rfl, HK.out⟩
end
end Go.Proofs.Ytmbemlpmfklddaa.Own
namespace Go.Proofs.Ytmbemlpmfklddaa.Own
open Go.RowKit Go.Proofs.YtmbemlpmfklddaaW.PrintWords Go.Proofs.YtmbemlpmfklddaaW.PrintLast Go.Proofs.YtmbemlpmfklddaaW.PrintMore
def strsR (L : List (List Int)) : List (List Value) := L.map (fun x => [.string (strOfNums x)])
set_option maxHeartbeats 2000000 in
set_option maxRecDepth 100000 in
theorem same_yes (A B : Option Addr) (ca cb : Nat) (L : List (List Int)) (w : World) (ha : (Kd.raw 1).C w A L.length (strsR L)) (hb : (Kd.slice 5 (Kd.int .u8)).C w B L.length L) :
    Calls Try.prog 42 #[.slice A L.length ca, .slice B L.length cb] w fun e w' => e = .returned (.bool true) ∧ Below w.heap.size w w' := by
  have HA := Aside0.mk ha
  have HB := Aside0.mk hb
  have hm := hb.2.1
  clear ha hb
  go_enter Try.func42, Try.ntmps42
  go_wp2_with fail
  go_loopw [5] (fun v5 wr => ∃ (k : Nat), v5 = .int .i64 k ∧ k ≤ L.length ∧ Aside0 (Below w.heap.size w wr)) (fun v5 _ => L.length - (intOf v5).toNat)
  case atStart => exact ⟨0, rfl, by omega, ⟨Below.refl _ _⟩⟩
  case round =>
    obtain ⟨k, rfl, hk, HW⟩ := hrel
    by_cases hlt : k < L.length
    · have q1 : decide ((k : Int) < (L.length : Int)) = true := decide_eq_true (by omega)
      have u1 : IntKind.i64.wrap ((k : Int) + 1) = (k : Int) + 1 := IntWalk.i64_in _ ⟨by omega, by omega⟩
      obtain ⟨ada, hAa, e1⟩ := atRaw1 (i := k) (u := .string (strOfNums L[k])) HA.out (by unfold strsR; rw [List.getElem?_map, List.getElem?_eq_getElem hlt]; rfl)
      obtain ⟨adb, A3, c3, hBb, e2, k3, C3⟩ := atRows HB.out k hlt rfl
      subst hAa hBb
      replace e1 := pw_cell_below HW.out e1
      replace e2 := pw_cell_below HW.out e2
      obtain ⟨S, hS⟩ : ∃ S, S = strOfNums L[k] := ⟨_, rfl⟩
      have z1 : Sem.run Try.prog (convert 22 9 (.slice A3 L[k].length c3)) wr.drew = .ok (.string S) wr.drew := by
        rw [hS]
        exact Kd.C_string Try.underlying22 Try.underlying5 Try.underlying9 (Kd.C_below C3 HW.out.drew)
      rw [← hS] at e1
      clear hS C3
      generalize L[k].length = n at e2 k3 z1
      have qS : (S.toList == S.toList) = true := beq_self_eq_true _
      go_wp2_with fail
      go_region
      all_goals
        go_wp2_with fail
        go_roundw
        case rel => exact ⟨k + 1, by go_num, by omega, ⟨HW.out.drew⟩⟩
        case measure => simp [intOf]; omega
    · have q1 : decide ((k : Int) < (L.length : Int)) = false := decide_eq_false (by omega)
      go_wp2_with fail
      go_ret
      exact ⟨rfl, HW.out⟩
end Go.Proofs.Ytmbemlpmfklddaa.Own
