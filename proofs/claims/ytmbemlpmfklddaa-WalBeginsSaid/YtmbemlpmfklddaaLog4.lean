/- split: parts and records. split: parts, then records. -/
import Derived.Test.YtmbemlpmfklddaaLog1
import Derived.Deep.RegionHeld3
import Derived.Test.YtmbemlpmfklddaaHr
namespace Go.Proofs.Ytmbemlpmfklddaa.Own
open Go.RowKit Go.Proofs.YtmbemlpmfklddaaW.PrintWords Go.Proofs.YtmbemlpmfklddaaW.PrintLast Go.Proofs.YtmbemlpmfklddaaW.PrintMore
/-- Parts, then records; none: another kind, or a part behind a record. -/
def splitR : List Rec → List (List Int) → List (List Int) → Option (List (List Int) × List (List Int))
  | [], P, R => some (P, R)
  | r :: L, P, R => if r.1 = 1 ∧ R = [] then splitR L (P ++ [r.2]) R else if r.1 = 2 then splitR L P (R ++ [r.2]) else none
/-- A row of cells, each a slice of bytes that stands in w: what the row tells. -/
def RowsOf (w : World) (rows : List (List Value)) (L : List (List Int)) : Prop :=
  rows.length = L.length ∧ ∀ (j : Nat) (l : List Int), L[j]? = some l → ∃ A c, rows[j]? = some [.slice A l.length c] ∧ l.length ≤ c ∧ (Kd.int .u8).C w A l.length l
theorem RowsOf.nil (w : World) : RowsOf w [] [] := ⟨rfl, fun j r hj => by simp at hj⟩
theorem RowsOf.below {w w1 : World} {rows : List (List Value)} {L : List (List Int)} (h : RowsOf w rows L) (hb : Below w.heap.size w w1) : RowsOf w1 rows L :=
  ⟨h.1, fun j l hj => by
    obtain ⟨A, c, h1, h2, h3⟩ := h.2 j l hj
    exact ⟨A, c, h1, h2, Kd.C_below h3 hb⟩⟩
theorem RowsOf.snoc {w : World} {rows : List (List Value)} {L : List (List Int)} (h : RowsOf w rows L) {l : List Int} {A : Option Addr} {c : Nat} (hc : l.length ≤ c) (hC : (Kd.int .u8).C w A l.length l) :
    RowsOf w (rows ++ [[.slice A l.length c]]) (L ++ [l]) := by
  refine ⟨by rw [List.length_append, List.length_append, h.1]; rfl, fun j x hj => ?_⟩
  by_cases hl : j < L.length
  · rw [List.getElem?_append_left hl] at hj
    rw [List.getElem?_append_left (by rw [h.1]; exact hl)]
    exact h.2 j x hj
  · rw [List.getElem?_append_right (by omega)] at hj
    obtain ⟨h1, rfl⟩ : j = L.length ∧ l = x := by
      have := (List.getElem?_eq_some_iff.1 hj).1
      simp only [List.length_singleton] at this
      have e : j - L.length = 0 := by omega
      rw [e] at hj
      exact ⟨by omega, by simpa using hj⟩
    rw [List.getElem?_append_right (by rw [h.1]; omega), h.1, h1, Nat.sub_self]
    exact ⟨A, c, rfl, hc, hC⟩
end Go.Proofs.Ytmbemlpmfklddaa.Own
namespace Go.Proofs.Ytmbemlpmfklddaa.Own
open Go.RowKit Go.Proofs.YtmbemlpmfklddaaW.PrintWords Go.Proofs.YtmbemlpmfklddaaW.PrintLast Go.Proofs.YtmbemlpmfklddaaW.PrintMore
/-- Cells, each a slice of bytes that stands in the blocks of ok in w: what they tell. -/
def RowsF (w : World) (ok : Nat → Prop) (rows : List (List Value)) (L : List (List Int)) : Prop :=
  rows.length = L.length ∧ ∀ (j : Nat) (l : List Int), L[j]? = some l → ∃ A c, rows[j]? = some [.slice A l.length c] ∧ l.length ≤ c ∧ Kd.F (Kd.int .u8) w ok A l.length l
theorem RowsF.nil (w : World) (ok : Nat → Prop) : RowsF w ok [] [] := ⟨rfl, fun j r hj => by simp at hj⟩
theorem RowsF.snoc {w : World} {ok : Nat → Prop} {rows : List (List Value)} {L : List (List Int)} (h : RowsF w ok rows L) {l : List Int} {A : Option Addr} {c : Nat} (hc : l.length ≤ c) (hC : Kd.F (Kd.int .u8) w ok A l.length l) :
    RowsF w ok (rows ++ [[.slice A l.length c]]) (L ++ [l]) := by
  refine ⟨by rw [List.length_append, List.length_append, h.1]; rfl, fun j x hj => ?_⟩
  by_cases hl : j < L.length
  · rw [List.getElem?_append_left hl] at hj
    rw [List.getElem?_append_left (by rw [h.1]; exact hl)]
    exact h.2 j x hj
  · rw [List.getElem?_append_right (by omega)] at hj
    obtain ⟨h1, rfl⟩ : j = L.length ∧ l = x := by
      have := (List.getElem?_eq_some_iff.1 hj).1
      simp only [List.length_singleton] at this
      have e : j - L.length = 0 := by omega
      rw [e] at hj
      exact ⟨by omega, by simpa using hj⟩
    rw [List.getElem?_append_right (by rw [h.1]; omega), h.1, h1, Nat.sub_self]
    exact ⟨A, c, rfl, hc, hC⟩
/-- One record of many that are only read. -/
theorem recF_at {w : World} {ok : Nat → Prop} {A : Option Addr} {n : Nat} {L : List Rec} (h : Kd.F WK w ok A n L) (i : Nat) (hi : i < L.length) (hn : n = L.length) :
    ∃ ad A3 c3, A = some ad ∧ w.cell? (ad.add (i * 2)) = some (.int .i64 L[i].1) ∧ w.cell? ⟨(ad.add (i * 2)).block, (ad.add (i * 2)).off + 1, none⟩ = some (.slice A3 L[i].2.length c3) ∧
      L[i].2.length ≤ c3 ∧ Kd.F (Kd.int .u8) w ok A3 L[i].2.length L[i].2 := by
  obtain ⟨ad, c, e, _, hK, hc0, _⟩ := Kd.F_get h (0, []) (i : Int) (by omega) (by omega)
  have e0 : L.getD (i : Int).toNat (0, []) = L[i] := by
    rw [Int.toNat_natCast]
    simp [List.getD_eq_getElem?_getD, List.getElem?_eq_getElem hi]
  rw [e0] at hK
  have hc : ∀ j u, c[j]? = some u → w.cell? (ad.add (i * 2 + j)) = some u := hc0
  obtain ⟨_, _, rfl, rfl, A3, c3, rfl, l3, g3⟩ := Kd.FK_now hK
  refine ⟨ad, A3, c3, e, hc 0 _ rfl, ?_, l3, fun W' hW => ?_⟩
  · rw [← add_field _ _ 1 (by omega)]; exact hc 1 _ rfl
  · obtain ⟨a0, a1, e1, e2, A4, c4, e3, l4, g4⟩ := hK W' hW
    subst e2 e3
    simp only [List.cons_append, List.nil_append, List.cons.injEq, and_true] at e1
    obtain ⟨_, e1⟩ := e1
    injection e1 with e1 _ _
    rw [e1]
    exact g4
/-- A row of cells that tell bytes: as a row of rows that is only read. -/
theorem rows_F {w W : World} {ok okr : Nat → Prop} {A : Option Addr} {rows : List (List Value)} {L : List (List Int)} (hR : Kd.F (Kd.raw 1) W okr A rows.length rows) (h : RowsF w ok rows L) (hb : Below w.heap.size w W) :
    Kd.F BL W (fun k => okr k ∨ (ok k ∧ k < w.heap.size)) A L.length L := by
  intro W' hW
  have hC : (Kd.raw 1).C W' A rows.length rows := hR W' (fun k hk hlt => hW k (.inl hk) hlt)
  have hm : ∀ k, ok k → k < w.heap.size → W'.heap[k]? = w.heap[k]? := fun k hk hlt => (hW k (.inr ⟨hk, hlt⟩) (Nat.lt_of_lt_of_le hlt hb.size)).trans (hb.block k hlt)
  obtain ⟨h1, h2, h3⟩ := hC
  refine ⟨rfl, by rw [← h.1]; exact h2, fun h0 => ?_⟩
  obtain ⟨ad, e, hc⟩ := h3 (by rw [h.1]; exact h0)
  refine ⟨ad, e, fun j l hj => ?_⟩
  obtain ⟨A4, c4, g1, g2, g3⟩ := h.2 j l hj
  obtain ⟨c, hl, hK, hcc⟩ := hc j _ g1
  obtain ⟨rfl, _, _⟩ := hK
  exact ⟨_, hl, ⟨A4, c4, rfl, g2, g3 W' hm⟩, hcc⟩
theorem slice_one (A : Option Addr) (n c : Nat) : ∀ u ∈ [Value.slice A n c], u.oneCell' = true := by
  intro u hu
  rw [List.mem_singleton.1 hu]
  rfl
section
variable {w W : World} {Ps : List Thing} {v : Value} {rows : List (List Value)} {ops : Array Oper} {rest : List Oper} {o : Oper} {a : Act} {Q : Exit → Act → World → Prop}
/-- append(parts, r.Data). -/
theorem rows_app (H : Here w W (RawT 1 22 v rows :: Ps)) (hgd : o.guard = none) (s x : Operand) (ho : o.op = .call { callee := .builtin .append, args := #[s, x], argTypes := #[29, 29] })
    (A : Option Addr) (n c : Nat) (g : Nat) (hs : a.eval s = v) (hx : a.eval x = .slice (some ⟨g, 0, none⟩) 1 1) (hb : W.heap[g]? = some (.cells #[.slice A n c] 22 (0, 0))) (hl : rows.length ≤ 1000000)
    (h : ∀ v1 w1, Here w w1 (RawT 1 22 v1 (rows ++ [[.slice A n c]]) :: Ps) → wpList Try.prog ops Q rest (a.put o.dst v1) w1) :
    wpList Try.prog ops Q (o :: rest) a W :=
  raw_app1 1 29 22 (.slice none 0 0) 24 H hgd s x ho Try.underlying29 info22 rfl (by decide) (by decide) [[.slice A n c]] _ 1 1 hs hx (raw_lit (cs := [.slice A n c]) hb rfl (slice_one A n c)) (by omega) (fun v1 w1 h1 _ => h v1 w1 h1)
end
theorem splitR_part {k : Int} {l : List Int} {L : List Rec} {P R : List (List Int)} (h1 : k = 1) (h2 : R = []) : splitR ((k, l) :: L) P R = splitR L (P ++ [l]) R := by
  rw [splitR, if_pos ⟨h1, h2⟩]
theorem splitR_rec {k : Int} {l : List Int} {L : List Rec} {P R : List (List Int)} (h1 : k = 2) : splitR ((k, l) :: L) P R = splitR L P (R ++ [l]) := by
  rw [splitR, if_neg (by simp only; omega), if_pos h1]
theorem splitR_no {k : Int} {l : List Int} {L : List Rec} {P R : List (List Int)} (h1 : ¬ (k = 1 ∧ R = [])) (h2 : ¬ k = 2) : splitR ((k, l) :: L) P R = none := by
  rw [splitR, if_neg h1, if_neg h2]
theorem drop_at {α : Type} {L : List α} {k : Nat} (hk : k < L.length) : L.drop k = L[k] :: L.drop (k + 1) := (List.drop_eq_getElem_cons hk)
set_option maxHeartbeats 4000000 in
set_option maxRecDepth 100000 in
theorem split_calls (A : Option Addr) (c : Nat) (L : List Rec) (w : World) (ok : Nat → Prop) (hL : L.length ≤ 300000) (h : Kd.F WK w ok A L.length L) :
    Calls Try.prog 75 #[.slice A L.length c] w fun e w' =>
      (∃ P R vp vr rowsP rowsR, splitR L [] [] = some (P, R) ∧ e = .returned (.tuple #[vp, vr, .bool true]) ∧ Here w w' [RawT 1 22 vp rowsP, RawT 1 22 vr rowsR] ∧ RowsF w ok rowsP P ∧ RowsF w ok rowsR R) ∨
      (splitR L [] [] = none ∧ e = .returned (.tuple #[.slice none 0 0, .slice none 0 0, .bool false]) ∧ Below w.heap.size w w') := by
  have hu49 := Try.underlying49
  have H := Aside0.mk h
  have HH := Aside0.mk (Here.nil w)
  clear h
  go_enter Try.func75, Try.ntmps75
  go_wp2_with fail
  go_loopw [5, 6, 11] (fun v5 v6 v11 wr => ∃ (k : Nat) (P R : List (List Int)) (rowsP rowsR : List (List Value)) (A5 A6 : Option Addr) (c5 c6 : Nat), v11 = .int .i64 k ∧ k ≤ L.length ∧ v5 = .slice A5 rowsP.length c5 ∧ v6 = .slice A6 rowsR.length c6 ∧ rowsP.length ≤ k ∧ rowsR.length ≤ k ∧
      Aside0 (splitR L [] [] = splitR (L.drop k) P R) ∧ Aside0 (Here w wr [RawT 1 22 v5 rowsP, RawT 1 22 v6 rowsR]) ∧ Aside0 (RowsF w ok rowsP P) ∧ Aside0 (RowsF w ok rowsR R)) (fun _ _ v11 _ => L.length - (intOf v11).toNat)
  case atStart => exact ⟨0, [], [], [], [], none, none, 0, 0, rfl, by omega, rfl, rfl, by simp, by simp, ⟨by simp⟩, ⟨(HH.out.addRaw 1 22).addRaw 1 22⟩, ⟨RowsF.nil w ok⟩, ⟨RowsF.nil w ok⟩⟩
  case round =>
    obtain ⟨k, P, R, rowsP, rowsR, A5, A6, c5, c6, rfl, hk, rfl, rfl, hp1, hr1, HS, HI, HP, HR⟩ := hrel
    by_cases hlt : k < L.length
    · have q1 : decide ((k : Int) < (L.length : Int)) = true := decide_eq_true (by omega)
      have u1 : IntKind.i64.wrap ((k : Int) + 1) = (k : Int) + 1 := IntWalk.i64_in _ ⟨by omega, by omega⟩
      obtain ⟨ad, A3, c3, rfl, e0, e1, k3, F3⟩ := recF_at H.out k hlt rfl
      replace e0 := pw_cell_below HI.out.below e0
      replace e1 := pw_cell_below HI.out.below e1
      have HF3 := Aside0.mk F3
      replace HS := Aside0.mk (HS.out.trans (congrArg (fun x => splitR x P R) (drop_at hlt)))
      generalize L[k] = r at e0 e1 k3 HF3 HS
      obtain ⟨kd, pb⟩ := r
      simp only at e0 e1 k3
      replace HF3 := Aside0.mk (show Kd.F (Kd.int .u8) w ok A3 pb.length pb from HF3.out)
      clear F3
      have HRL := Aside0.mk HR.out.1
      have t0 : True := trivial
      rcases (show (kd = 1 ∧ R = []) ∨ (¬ (kd = 1 ∧ R = []) ∧ kd = 2) ∨ (¬ (kd = 1 ∧ R = []) ∧ ¬ kd = 2) by
        by_cases x1 : kd = 1 ∧ R = []
        · exact .inl x1
        · by_cases x2 : kd = 2
          · exact .inr (.inl ⟨x1, x2⟩)
          · exact .inr (.inr ⟨x1, x2⟩)) with ⟨g1, g2⟩ | ⟨g1, g2⟩ | ⟨g1, g2⟩
      · have HS2 := Aside0.mk (HS.out.trans (splitR_part g1 g2))
        have hr0 : rowsR.length = 0 := by rw [HRL.out, g2]; rfl
        have hr0' : ((rowsR.length : Int) == 0) = true := beq_iff_eq.mpr (by omega)
        have q1' : (kd == 1) = true := beq_iff_eq.mpr g1
        have HR0 := Aside0.mk hr0
        clear g2 HS hr0
        go_wp2_with (at_builtin; go_must (refine rows_app ((HI.out.alloc _).alloc _) rfl (.tmp 24) (.tmp 27) rfl A3 pb.length c3 _ rfl rfl (heap_at (by first | rfl | simp)) (by omega) ?_); intro v7 w8 h; obtain ⟨A7, c7, hv7, k7, _⟩ := h.raw; rw [List.length_append] at hv7; subst hv7; have HI4 := Aside0.mk h; clear HI h)
        go_roundw
        case rel =>
          refine ⟨k + 1, P ++ [pb], R, rowsP ++ [[.slice A3 pb.length c3]], rowsR, A7, A6, c7, c6, by go_num, by omega, by rw [List.length_append]; rfl, by first | rfl | rw [HR0.out]; rfl, by rw [List.length_append]; simp; omega, by omega, HS2, ⟨?_⟩, ⟨HP.out.snoc k3 HF3.out⟩, HR⟩
          first
            | exact HI4.out
            | (rw [← HR0.out]; exact HI4.out)
        case measure => simp [intOf]; omega
      · have HS2 := Aside0.mk (HS.out.trans (splitR_rec g2))
        have q1' : (kd == 1) = false := beq_eq_false_iff_ne.mpr (by omega)
        have q2' : (kd == 2) = true := beq_iff_eq.mpr g2
        clear g1 HS
        go_wp2_with (at_builtin; go_must (refine rows_app (((HI.out.alloc _).alloc _).swap) rfl (.tmp 33) (.tmp 36) rfl A3 pb.length c3 _ rfl rfl (heap_at (by first | rfl | simp)) (by omega) ?_); intro v7 w8 h; obtain ⟨A7, c7, hv7, k7, _⟩ := h.raw; rw [List.length_append] at hv7; subst hv7; have HI4 := Aside0.mk h.swap; clear HI h)
        go_roundw
        case rel =>
          exact ⟨k + 1, P, R ++ [pb], rowsP, rowsR ++ [[.slice A3 pb.length c3]], A5, A7, c5, c7, by go_num, by omega, rfl, by rw [List.length_append]; rfl, by omega, by rw [List.length_append]; simp; omega, HS2, HI4, HP, ⟨HR.out.snoc k3 HF3.out⟩⟩
        case measure => simp [intOf]; omega
      · have HS2 := Aside0.mk (HS.out.trans (splitR_no g1 g2))
        have q2' : (kd == 2) = false := beq_eq_false_iff_ne.mpr g2
        by_cases gk : kd = 1
        · have hr0 : rowsR.length ≠ 0 := by
            rw [HRL.out]
            intro hz
            exact g1 ⟨gk, List.length_eq_zero_iff.1 hz⟩
          have hr0' : ((rowsR.length : Int) == 0) = false := beq_eq_false_iff_ne.mpr (by omega)
          have q1' : (kd == 1) = true := beq_iff_eq.mpr gk
          clear g1 HS
          go_wp2_with fail
          go_ret3
          exact .inr ⟨HS2.out, rfl, (HI.out.alloc _).below⟩
        · have q1' : (kd == 1) = false := beq_eq_false_iff_ne.mpr gk
          clear g1 HS
          go_wp2_with fail
          go_ret3
          exact .inr ⟨HS2.out, rfl, (HI.out.alloc _).below⟩
    · obtain rfl : k = L.length := by omega
      have HS2 := Aside0.mk (show splitR L [] [] = some (P, R) by rw [HS.out, List.drop_length]; rfl)
      go_wp2_with fail
      go_ret3
      exact .inl ⟨P, R, _, _, _, _, HS2.out, rfl, HI.out, HP.out, HR.out⟩
end Go.Proofs.Ytmbemlpmfklddaa.Own
