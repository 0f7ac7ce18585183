/- FramesTell answers true. -/
import Derived.Test.YtmbemlpmfklddaaFrd
import Derived.Test.YtmbemlpmfklddaaStructs
import Derived.Deep.RegionHeld3
namespace Go.Proofs.Ytmbemlpmfklddaa.Own
section
open Go.ChangeShapes Go.WideShapes Go.ChangeAt Go.RowKit Go.Deep Go.Joins
open Go.Proofs.YtmbemlpmfklddaaW.PrintWords
set_option maxRecDepth 100000 in
theorem open_rec {H : Type} {enc : TypeId × Value → H} {w : World} {base : Nat} {spare : Nat → Bool} {held : Bool} {r : Reach} {b0 : Nat} {v : Value} {x : DataW H} {ps : List MemPlace}
    (hval : Value.okWide Try.prog w r b0 49 v) (h : DataW.Trod enc Try.prog w base spare held 49 v x ps) :
    ∃ k A c xs, v = .agg #[.int .i64 k, .slice A xs.length c] ∧ xs.length ≤ c ∧ (Kd.int .u8).C w A xs.length xs ∧ ∀ z ∈ xs, 0 ≤ z ∧ z < 256 := by
  obtain ⟨cs, rfl, _⟩ := okWide_struct Try.underlying49 hval
  obtain ⟨fuel, hf⟩ := h
  obtain ⟨y, hK, hQ⟩ := opensR fuel _ _ hf
  obtain ⟨_, _, he, rfl, A, c, rfl, hl, hC⟩ := hK
  have he2 : cs.toList = [.int .i64 y.1, .slice A y.2.length c] := he
  refine ⟨y.1, A, c, y.2, ?_, hl, hC, hQ.2⟩
  congr 1
  apply Array.ext'
  rw [he2]
end
open Go.RowKit Go.Proofs.YtmbemlpmfklddaaW.PrintWords Go.Proofs.YtmbemlpmfklddaaW.PrintLast Go.Proofs.YtmbemlpmfklddaaW.PrintMore
theorem Here.join {w W W' : World} {Ps : List Thing} {P : Thing} (h : Here w W Ps) (h2 : Here W W' [P]) : Here w W' (P :: Ps) := by
  obtain ⟨S, ⟨S1, S2, h1, _, _, h4⟩, h5, h6⟩ := h2
  exact h.add h1 h6 (fun k hk => (h5 k (h4 k (.inl hk))).1)
theorem RefRead_here {w W : World} {Ps : List Thing} (h : Here w W Ps) (b : List Int) (hl : b.length ≤ 300000) (hb : ∀ x ∈ b, 0 ≤ x ∧ x < 256) :
    Calls Try.prog 31 #[.string (strOfNums b)] W fun e W' => ∃ v, e = .returned (.tuple #[v, .int .i64 (readR b).2.1, .int .i64 (readR b).2.2]) ∧ Here w W' (RawT 2 55 v (rowsR (readR b).1) :: Ps) := by
  refine (RefRead_calls b W hl hb).mono ?_
  rintro e W' ⟨v, rfl, h2⟩
  exact ⟨v, rfl, h.join h2⟩
theorem RefRead_eq {w W : World} {Ps : List Thing} (h : Here w W Ps) (b : List Int) (t : ByteArray) (hl : b.length ≤ 300000) (hb : ∀ x ∈ b, 0 ≤ x ∧ x < 256) (ht : t = strOfNums b) :
    Calls Try.prog 31 #[.string t] W fun e W' => ∃ v, e = .returned (.tuple #[v, .int .i64 (readR b).2.1, .int .i64 (readR b).2.2]) ∧ Here w W' (RawT 2 55 v (rowsR (readR b).1) :: Ps) := by
  subst ht
  exact RefRead_here h b hl hb
theorem cells2_of {w W : World} {Ps : List Thing} {g : Nat} {a b : Value} {t : TypeId} (h : Here w W (CellsT g #[a, b] t :: Ps)) : W.cell? ⟨g, 0, none⟩ = some a ∧ W.cell? ⟨g, 1, none⟩ = some b ∧ g < W.heap.size :=
  ⟨cell_of_row W g 0 _ _ _ h.cells, cell_of_row W g 1 _ _ _ h.cells, blk_lt h.cells⟩
theorem Size_calls (r : Rec) (A : Option Addr) (c : Nat) (w : World) (h : (Kd.int .u8).C w A r.2.length r.2) (hc : r.2.length ≤ c) :
    Calls Try.prog 34 #[.agg #[.int .i64 r.1, .slice A r.2.length c]] w fun e w' => e = .returned (.int .i64 (if okR r then (r.2.length : Int) + 9 else 0)) ∧ Below w.heap.size w w' := by
  refine Go.Proofs.Ytmbemlpmfklddaa.PFramesTell.frames_Size.calls r.1 A c r.2 _ w h hc ?_
  unfold Go.Proofs.Ytmbemlpmfklddaa.PFramesTell.frames_Size.f Go.Proofs.Ytmbemlpmfklddaa.PFramesTell.frames_Right.f
  have hok : okR r ↔ 1 ≤ r.1 ∧ r.1 ≤ 255 ∧ r.2.length ≤ 60000 := Iff.rfl
  by_cases h1 : r.1 ≥ 1
  · rw [if_pos h1]
    by_cases h2 : r.1 ≤ 255
    · rw [if_pos h2]
      by_cases h3 : r.2.length ≤ 60000
      · rw [if_pos (hok.2 ⟨h1, h2, h3⟩), decide_eq_true (by omega)]
        simp only [Option.bind_some, if_true]
        congr 1
        unfold wrap64
        omega
      · rw [if_neg (fun h => h3 (hok.1 h).2.2), decide_eq_false (by omega)]
        simp
    · rw [if_neg h2, if_neg (fun h => h2 (hok.1 h).2.1)]
      simp
  · rw [if_neg h1, if_neg (fun h => h1 (hok.1 h).1)]
    simp
theorem keep5 {w w2 : World} {p0 p1 p2 p3 : Addr} {v0 v1 v2 v3 : Value} {A : Option Addr} {c : Nat} {xs : List Int} {t : ByteArray} (h : w.cell? p0 = some v0 ∧ w.cell? p1 = some v1 ∧ w.cell? p2 = some v2 ∧ w.cell? p3 = some v3)
    (hC : (Kd.int .u8).C w A xs.length xs) (ht : t = strOfNums xs) (hb : Below w.heap.size w w2) :
    w2.cell? p0 = some v0 ∧ w2.cell? p1 = some v1 ∧ w2.cell? p2 = some v2 ∧ w2.cell? p3 = some v3 ∧ Sem.run Try.prog (convert 22 9 (.slice A xs.length c)) w2 = .ok (.string t) w2 := by
  subst ht
  exact ⟨pw_cell_below hb h.1, pw_cell_below hb h.2.1, pw_cell_below hb h.2.2.1, pw_cell_below hb h.2.2.2, Kd.C_string Try.underlying22 Try.underlying5 Try.underlying9 (Kd.C_below hC hb)⟩
theorem rowsR_get {B : List Rec} {i : Nat} (hi : i < B.length) : (rowsR B)[i]? = some [.int .i64 B[i].1, .string (strOfNums B[i].2)] := by
  unfold rowsR
  rw [List.getElem?_map, List.getElem?_eq_getElem hi]
  rfl
theorem decide_cases (P : Prop) [Decidable P] : (decide P = true ∧ P) ∨ (decide P = false ∧ ¬ P) := by
  by_cases h : P
  · exact .inl ⟨decide_eq_true h, h⟩
  · exact .inr ⟨decide_eq_false h, h⟩
set_option maxHeartbeats 4000000 in
set_option maxRecDepth 100000 in
theorem FramesTell_long (k0 : Int) (A0 : Option Addr) (c0 : Nat) (l0 : List Int) (A1 : Option Addr) (c1 : Nat) (l1 : List Int) (w : World)
    (g : (2000 < (l0.length : Int) ∧ (l0.length : Int) ≤ 60000) ∨ 60010 < (l0.length : Int) ∨ 3000 < (l1.length : Int)) :
    Calls Try.prog 10 #[.agg #[.int .i64 k0, .slice A0 l0.length c0], .slice A1 l1.length c1] w fun e w' => e = .returned (.bool true) ∧ Below w.heap.size w w' := by
  have hu49 := Try.underlying49
  have HB := Aside0.mk (Below.refl w.heap.size w)
  rcases decide_cases (2000 < (l0.length : Int)) with ⟨p1, n1⟩ | ⟨p1, n1⟩ <;> rcases decide_cases ((l0.length : Int) ≤ 60000) with ⟨p2, n2⟩ | ⟨p2, n2⟩ <;> rcases decide_cases (60010 < (l0.length : Int)) with ⟨p3, n3⟩ | ⟨p3, n3⟩ <;> rcases decide_cases (3000 < (l1.length : Int)) with ⟨p4, n4⟩ | ⟨p4, n4⟩
  all_goals try (exfalso; omega)
  all_goals
    clear n1 n2 n3 n4 g
    go_enter Try.func10, Try.ntmps10
    go_wp2_with (go_at_call 27; go_must (refine (alive13 _).mono ?_; rintro e w1 ⟨rfl, h⟩; have HB1 := Aside0.mk (below_drop h); clear h HB))
    go_ret
    exact ⟨rfl, HB1.out⟩
set_option maxHeartbeats 8000000 in
set_option maxRecDepth 100000 in
theorem FramesTell_main (k0 : Int) (A0 : Option Addr) (c0 : Nat) (l0 : List Int) (A1 : Option Addr) (c1 : Nat) (l1 : List Int) (w : World)
    (h0 : (Kd.int .u8).C w A0 l0.length l0) (k00 : l0.length ≤ c0) (q0 : ∀ x ∈ l0, 0 ≤ x ∧ x < 256) (h1 : (Kd.int .u8).C w A1 l1.length l1) (k1 : l1.length ≤ c1) (b1 : ∀ x ∈ l1, 0 ≤ x ∧ x < 256)
    (g : ¬ ((2000 < (l0.length : Int) ∧ (l0.length : Int) ≤ 60000) ∨ 60010 < (l0.length : Int) ∨ 3000 < (l1.length : Int))) :
    Calls Try.prog 10 #[.agg #[.int .i64 k0, .slice A0 l0.length c0], .slice A1 l1.length c1] w fun e w' => e = .returned (.bool true) ∧ Below w.heap.size w w' := by
  have hu49 := Try.underlying49
  have hu55 := Try.underlying55
  have H0 := Aside0.mk h0
  have H1 := Aside0.mk h1
  have HR0 := Aside0.mk q0
  have HR1 := Aside0.mk b1
  clear h0 h1 q0 b1
  have hl0 : l0.length ≤ 60010 := by omega
  have hl1 : l1.length ≤ 3000 := by omega
  have p4 : decide (3000 < (l1.length : Int)) = false := decide_eq_false (by omega)
  have hp : decide (2000 < (l0.length : Int)) = false ∨ (decide (2000 < (l0.length : Int)) = true ∧ decide ((l0.length : Int) ≤ 60000) = false) := by
    rcases decide_cases (2000 < (l0.length : Int)) with ⟨p1, n1⟩ | ⟨p1, n1⟩
    · exact .inr ⟨p1, decide_eq_false (by omega)⟩
    · exact .inl p1
  have p3 : decide (60010 < (l0.length : Int)) = false := decide_eq_false (by omega)
  clear g
  have HH := Aside0.mk ((Here.nil w).newCells #[.int .i64 k0, .slice A0 l0.length c0] 49)
  obtain ⟨s0, hs0⟩ : ∃ s0, s0 = strOfNums l0 := ⟨_, rfl⟩
  have HS0 := Aside0.mk hs0
  clear hs0
  obtain ⟨s1, hs1⟩ : ∃ s1, s1 = strOfNums l1 := ⟨_, rfl⟩
  have HS1 := Aside0.mk hs1
  clear hs1
  obtain ⟨B, hB⟩ : ∃ B, B = (readR l1).1 := ⟨_, rfl⟩
  obtain ⟨tl, htl⟩ : ∃ tl, tl = (readR l1).2.1 := ⟨_, rfl⟩
  obtain ⟨ec, hec⟩ : ∃ ec, ec = (readR l1).2.2 := ⟨_, rfl⟩
  have HX := Aside0.mk (show readR l1 = (B, tl, ec) by rw [hB, htl, hec])
  have hBl : B.length ≤ 3000 := by rw [hB]; exact Nat.le_trans (readR_num l1) hl1
  clear hB htl hec
  obtain ⟨ok, hok⟩ : ∃ ok, ok = decide (okR (k0, l0)) := ⟨_, rfl⟩
  have HOK := Aside0.mk hok
  clear hok
  have t1 : True := trivial
  by_cases gok : okR (k0, l0)
  · have hok1 : ok = true := by rw [HOK.out]; exact decide_eq_true gok
    have GOK := Aside0.mk gok
    clear gok
    subst hok1
    have t2 : True := trivial
    have t3 : True := trivial
    have t4 : True := trivial
    obtain ⟨fr, hfr⟩ : ∃ fr, fr = frameR (k0, l0) := ⟨_, rfl⟩
    have HFR := Aside0.mk hfr
    have HFL := Aside0.mk (show fr.length = l0.length + 9 by rw [hfr, frameR_len])
    clear hfr
    rcases hp with p1 | ⟨p1, p2⟩
    all_goals
      go_enter Try.func10, Try.ntmps10
      go_wp2_with (first
        | (go_at_call 30; have _t := t1; go_must (refine (Go.Proofs.Ytmbemlpmfklddaa.PFramesTell.truglaw13_As.calls k0 A0 c0 l0 k0 s0 _ (Kd.C_below H0.out HH.out.below) k00 (by rw [HS0.out]; rfl)).mono ?_; rintro e w1 ⟨rfl, h⟩; have HA := Aside0.mk (HH.out.then_ h); have HA2 := Aside0.mk (HA.out.newCells #[.int .i64 k0, .string s0] 55); obtain ⟨d0, d1, dl⟩ := cells2_of HA.out; clear h HH HA t1))
        | (go_at_call 28; have _t := t2; go_must (refine (WriteF_here HA2.out (k0, l0) A0 c0 (Kd.C_below H0.out HA2.out.below) k00 GOK.out).mono ?_; rw [← HFR.out]; rintro e w2 ⟨v2, rfl, h⟩; obtain ⟨A6, c6, rfl, k6, _⟩ := h.bytes.slice; have HB := Aside0.mk h; clear h HA2 d0 d1 dl t2))
        | (go_at_call 29; have _t := t3; go_must (refine (ReadF_here HB.out A1 c1 l1 (Kd.C_below H1.out HB.out.below) k1 HR1.out (by omega)).mono ?_; rw [HX.out]; rintro e w3 ⟨v3, rfl, h⟩; obtain ⟨A8, c8, rfl, k8, _⟩ := h.recs; have HC := Aside0.mk h; have cv : Sem.run Try.prog (convert 22 9 (.slice A1 l1.length c1)) w3 = .ok (.string s1) w3 := (by rw [HS1.out]; exact Kd.C_string Try.underlying22 Try.underlying5 Try.underlying9 (Kd.C_below H1.out HC.out.below)); clear h HB t3))
        | (go_at_call 31; have _t := t4; go_must (refine (RefRead_eq HC.out l1 s1 (by omega) HR1.out HS1.out).mono ?_; rw [HX.out]; rintro e w4 ⟨v4, rfl, h⟩; obtain ⟨A9, c9, hv9, k9, _⟩ := h.raw; rw [rowsR_len] at hv9 k9; subst hv9; have HD := Aside0.mk h; clear h HC t4 cv)))
      have HCL := Aside0.mk (show w4.cell? ⟨w.heap.size, 0, none⟩ = some (.int .i64 k0) ∧ w4.cell? ⟨w.heap.size, 1, none⟩ = some (.slice A0 l0.length c0) ∧ w4.cell? ⟨w1.heap.size, 0, none⟩ = some (.int .i64 k0) ∧ w4.cell? ⟨w1.heap.size, 1, none⟩ = some (.string s0) from
        ⟨(cells2_of (Here.nth HD.out 4 (by simp))).1, (cells2_of (Here.nth HD.out 4 (by simp))).2.1, (cells2_of (Here.nth HD.out 3 (by simp))).1, (cells2_of (Here.nth HD.out 3 (by simp))).2.1⟩)
      have HB0 := Aside0.mk (Below.refl w4.heap.size w4)
      go_region_held3 (fun w' => w'.cell? ⟨w.heap.size, 0, none⟩ = some (.int .i64 k0) ∧ w'.cell? ⟨w.heap.size, 1, none⟩ = some (.slice A0 l0.length c0) ∧ w'.cell? ⟨w1.heap.size, 0, none⟩ = some (.int .i64 k0) ∧ w'.cell? ⟨w1.heap.size, 1, none⟩ = some (.string s0))
        (first
          | exact cells_keep4 HCL.out HBb.out
          | exact cells_keep4 HCL.out HBa.out
          | exact HCL.out
          | exact cells_keep4 HCL.out HBb.out.drew
          | exact cells_keep4 HCL.out HBa.out.drew
          | exact cells_keep4 HCL.out HB0.out.drew)
        (first
          | (go_at_call 32; go_must (refine (Right_calls (k0, l0) A0 c0 _ (by exact Kd.C_below H0.out (by first | exact (HD.out.then_ HBa.out).below | exact (HD.out.then_ HBa.out).drew.below | exact HD.out.below | exact HD.out.drew.below)) k00).mono ?_; rw [← HOK.out]; rintro e w5 ⟨rfl, h⟩; have HBa := Aside0.mk (below_step (by first | exact HB0.out | exact HB0.out.drew) h); clear h))
          | (go_at_call 33; go_must (refine (RefRight_eq k0 l0 s0 _ HS0.out).mono ?_; rw [← HOK.out]; rintro e w6 ⟨rfl, h⟩; have HBb := Aside0.mk (below_step (by first | exact HBa.out | exact HBa.out.drew) h); clear h)))
      all_goals
        go_wp2_with fail
        have HE := Aside0.mk (HD.out.then_ HBb.out)
        clear HD HBb HBa HB0 HCL
        go_loopw [14] (fun v14 wr => ∃ (i : Nat), i ≤ B.length ∧ v14 = .int .i64 i ∧ Aside0 (Here w wr [RawT 2 55 (.slice A9 B.length c9) (rowsR B), RecsT (.slice A8 B.length c8) B, BytesT (.slice A6 fr.length c6) fr, CellsT w1.heap.size #[.int .i64 k0, .string s0] 55, CellsT w.heap.size #[.int .i64 k0, .slice A0 l0.length c0] 49])) (fun v14 _ => B.length - (intOf v14).toNat)
        case atStart => exact ⟨0, by omega, rfl, HE⟩
        case round =>
          clear HE
          obtain ⟨i, hi, rfl, HE⟩ := hrel
          by_cases hil : i < B.length
          · have z1 : decide ((i : Int) < (B.length : Int)) = true := decide_eq_true (by omega)
            have z3 : IntKind.i64.wrap ((i : Int) + 1) = (i : Int) + 1 := IntWalk.i64_in _ ⟨by omega, by omega⟩
            obtain ⟨ad, A3, c3, rfl, e0, e1, k3, C3⟩ := atR (recs_of HE.out.swap) i hil rfl
            obtain ⟨ae, rfl, f0, f1⟩ := atRaw2 (raw_of HE.out) (rowsR_get hil)
            generalize B[i] = r at e0 e1 k3 C3 f0 f1
            obtain ⟨rk, rb⟩ := r
            simp only at e0 e1 k3 C3 f0 f1
            obtain ⟨sb, hsb⟩ : ∃ sb, sb = strOfNums rb := ⟨_, rfl⟩
            rw [← hsb] at f1
            have HSB := Aside0.mk hsb
            have HC3 := Aside0.mk C3
            have HS := Aside0.mk (And.intro e0 (And.intro e1 (And.intro f0 f1)))
            have HB0 := Aside0.mk (Below.refl wr.heap.size wr)
            clear C3 hsb
            go_wp2_with fail
            go_region_held3 (fun w' => w'.cell? (ad.add (i * 2)) = some (.int .i64 rk) ∧ w'.cell? ⟨(ad.add (i * 2)).block, (ad.add (i * 2)).off + 1, none⟩ = some (.slice A3 rb.length c3) ∧ w'.cell? (ae.add (i * 2)) = some (.int .i64 rk) ∧ w'.cell? ⟨(ae.add (i * 2)).block, (ae.add (i * 2)).off + 1, none⟩ = some (.string sb))
              (first
                | exact cells_keep4 HS.out HBa.out
                | exact HS.out
                | exact cells_keep4 HS.out HBa.out.drew
                | exact cells_keep4 HS.out HB0.out.drew)
              (first
                | (go_at_call 30; go_must (refine (Go.Proofs.Ytmbemlpmfklddaa.PFramesTell.truglaw13_As.calls rk A3 c3 rb rk sb _ (by exact Kd.C_below HC3.out (by first | exact HB0.out | exact HB0.out.drew)) k3 (by rw [HSB.out]; rfl)).mono ?_; rintro e w8 ⟨rfl, h⟩; have HBa := Aside0.mk (below_step (by first | exact HB0.out | exact HB0.out.drew) h); clear h)))
            all_goals
              go_wp2_with fail
              go_roundw
              case rel => exact ⟨i + 1, by omega, by go_num, ⟨HE.out.then_ HBa.out⟩⟩
              case measure => simp [intOf]; omega
          · have z1 : decide ((i : Int) < (B.length : Int)) = false := decide_eq_false (by omega)
            have z4 : ¬ i < B.length := hil
            obtain ⟨d0, d1, dl⟩ := cells2_of (Here.nth HE.out 3 (by simp))
            go_wp2_with (go_at_call 33; go_must (refine (RefRight_eq k0 l0 s0 _ HS0.out).mono ?_; rw [← HOK.out]; rintro e w7 ⟨rfl, h⟩; have HF := Aside0.mk (HE.out.then_ h); clear h HE d0 d1 dl))
            obtain ⟨sF, hsF⟩ : ∃ sF, sF = strOfNums fr := ⟨_, rfl⟩
            have HSF := Aside0.mk hsF
            have HSF2 := Aside0.mk (show sF = strOfNums (frameR (k0, l0)) by rw [← HFR.out]; exact hsF)
            clear hsF
            have HCL := Aside0.mk (show w7.cell? ⟨w.heap.size, 0, none⟩ = some (.int .i64 k0) ∧ w7.cell? ⟨w.heap.size, 1, none⟩ = some (.slice A0 l0.length c0) ∧ w7.cell? ⟨w1.heap.size, 0, none⟩ = some (.int .i64 k0) ∧ w7.cell? ⟨w1.heap.size, 1, none⟩ = some (.string s0) from
              ⟨(cells2_of (Here.nth HF.out 4 (by simp))).1, (cells2_of (Here.nth HF.out 4 (by simp))).2.1, (cells2_of (Here.nth HF.out 3 (by simp))).1, (cells2_of (Here.nth HF.out 3 (by simp))).2.1⟩)
            have HC6 := Aside0.mk (bytes_of (Here.nth HF.out 2 (by simp)))
            have HB0 := Aside0.mk (Below.refl w7.heap.size w7)
            have hsz : (if okR (k0, l0) then (l0.length : Int) + 9 else 0) = (fr.length : Int) := by
              rw [if_pos GOK.out, HFL.out]
              omega
            have HSZ := Aside0.mk hsz
            clear hsz
            go_region_held3 (fun w' => w'.cell? ⟨w.heap.size, 0, none⟩ = some (.int .i64 k0) ∧ w'.cell? ⟨w.heap.size, 1, none⟩ = some (.slice A0 l0.length c0) ∧ w'.cell? ⟨w1.heap.size, 0, none⟩ = some (.int .i64 k0) ∧ w'.cell? ⟨w1.heap.size, 1, none⟩ = some (.string s0) ∧ Sem.run Try.prog (convert 22 9 (.slice A6 fr.length c6)) w' = .ok (.string sF) w')
              (first
                | exact keep5 HCL.out HC6.out HSF.out HBc.out
                | exact keep5 HCL.out HC6.out HSF.out HBb.out
                | exact keep5 HCL.out HC6.out HSF.out HBa.out
                | exact keep5 HCL.out HC6.out HSF.out HB0.out
                | exact keep5 HCL.out HC6.out HSF.out HBc.out.drew
                | exact keep5 HCL.out HC6.out HSF.out HBb.out.drew
                | exact keep5 HCL.out HC6.out HSF.out HBa.out.drew
                | exact keep5 HCL.out HC6.out HSF.out HB0.out.drew)
              (first
                | (go_at_call 27; go_must (refine (alive13 _).mono ?_; rintro e w8 ⟨rfl, h⟩; have HBa := Aside0.mk (below_step (by first | exact HB0.out | exact HB0.out.drew) h); clear h))
                | (go_at_call 35; go_must (refine (RefWrite_eq k0 l0 s0 sF _ HS0.out HSF2.out GOK.out HR0.out).mono ?_; rintro e w9 ⟨rfl, h⟩; have HBb := Aside0.mk (below_step (by first | exact HBa.out | exact HBa.out.drew) h); clear h))
                | (go_at_call 34; go_must (refine (Size_calls (k0, l0) A0 c0 _ (by exact Kd.C_below H0.out (by first | exact (HF.out.then_ HBb.out).below | exact (HF.out.then_ HBb.out).drew.below)) k00).mono ?_; rw [HSZ.out]; rintro e w10 ⟨rfl, h⟩; have HBc := Aside0.mk (below_step (by first | exact HBb.out | exact HBb.out.drew) h); clear h)))
            all_goals
              go_wp2_with fail
              go_ret
              exact ⟨rfl, (HF.out.then_ HBc.out).below⟩
  · have hok1 : ok = false := by rw [HOK.out]; exact decide_eq_false gok
    have GOK := Aside0.mk gok
    clear gok
    subst hok1
    have t2 : True := trivial
    have t3 : True := trivial
    have t4 : True := trivial
    rcases hp with p1 | ⟨p1, p2⟩
    all_goals
      go_enter Try.func10, Try.ntmps10
      go_wp2_with (first
        | (go_at_call 30; have _t := t1; go_must (refine (Go.Proofs.Ytmbemlpmfklddaa.PFramesTell.truglaw13_As.calls k0 A0 c0 l0 k0 s0 _ (Kd.C_below H0.out HH.out.below) k00 (by rw [HS0.out]; rfl)).mono ?_; rintro e w1 ⟨rfl, h⟩; have HA := Aside0.mk (HH.out.then_ h); have HA2 := Aside0.mk (HA.out.newCells #[.int .i64 k0, .string s0] 55); obtain ⟨d0, d1, dl⟩ := cells2_of HA.out; clear h HH HA t1))
        | (go_at_call 28; have _t := t2; go_must (refine (Write_bad (k0, l0) A0 c0 _ (Kd.C_below H0.out HA2.out.below) k00 GOK.out).mono ?_; rintro e w2 ⟨rfl, h⟩; have HB := Aside0.mk (HA2.out.then_ h); clear h HA2 d0 d1 dl t2))
        | (go_at_call 29; have _t := t3; go_must (refine (ReadF_here HB.out A1 c1 l1 (Kd.C_below H1.out HB.out.below) k1 HR1.out (by omega)).mono ?_; rw [HX.out]; rintro e w3 ⟨v3, rfl, h⟩; obtain ⟨A8, c8, rfl, k8, _⟩ := h.recs; have HC := Aside0.mk h; have cv : Sem.run Try.prog (convert 22 9 (.slice A1 l1.length c1)) w3 = .ok (.string s1) w3 := (by rw [HS1.out]; exact Kd.C_string Try.underlying22 Try.underlying5 Try.underlying9 (Kd.C_below H1.out HC.out.below)); clear h HB t3))
        | (go_at_call 31; have _t := t4; go_must (refine (RefRead_eq HC.out l1 s1 (by omega) HR1.out HS1.out).mono ?_; rw [HX.out]; rintro e w4 ⟨v4, rfl, h⟩; obtain ⟨A9, c9, hv9, k9, _⟩ := h.raw; rw [rowsR_len] at hv9 k9; subst hv9; have HD := Aside0.mk h; clear h HC t4 cv)))
      have HCL := Aside0.mk (show w4.cell? ⟨w.heap.size, 0, none⟩ = some (.int .i64 k0) ∧ w4.cell? ⟨w.heap.size, 1, none⟩ = some (.slice A0 l0.length c0) ∧ w4.cell? ⟨w1.heap.size, 0, none⟩ = some (.int .i64 k0) ∧ w4.cell? ⟨w1.heap.size, 1, none⟩ = some (.string s0) from
        ⟨(cells2_of (Here.nth HD.out 3 (by simp))).1, (cells2_of (Here.nth HD.out 3 (by simp))).2.1, (cells2_of (Here.nth HD.out 2 (by simp))).1, (cells2_of (Here.nth HD.out 2 (by simp))).2.1⟩)
      have HB0 := Aside0.mk (Below.refl w4.heap.size w4)
      go_region_held3 (fun w' => w'.cell? ⟨w.heap.size, 0, none⟩ = some (.int .i64 k0) ∧ w'.cell? ⟨w.heap.size, 1, none⟩ = some (.slice A0 l0.length c0) ∧ w'.cell? ⟨w1.heap.size, 0, none⟩ = some (.int .i64 k0) ∧ w'.cell? ⟨w1.heap.size, 1, none⟩ = some (.string s0))
        (first
          | exact cells_keep4 HCL.out HBb.out
          | exact cells_keep4 HCL.out HBa.out
          | exact HCL.out
          | exact cells_keep4 HCL.out HBb.out.drew
          | exact cells_keep4 HCL.out HBa.out.drew
          | exact cells_keep4 HCL.out HB0.out.drew)
        (first
          | (go_at_call 32; go_must (refine (Right_calls (k0, l0) A0 c0 _ (by exact Kd.C_below H0.out (by first | exact (HD.out.then_ HBa.out).below | exact (HD.out.then_ HBa.out).drew.below | exact HD.out.below | exact HD.out.drew.below)) k00).mono ?_; rw [← HOK.out]; rintro e w5 ⟨rfl, h⟩; have HBa := Aside0.mk (below_step (by first | exact HB0.out | exact HB0.out.drew) h); clear h))
          | (go_at_call 33; go_must (refine (RefRight_eq k0 l0 s0 _ HS0.out).mono ?_; rw [← HOK.out]; rintro e w6 ⟨rfl, h⟩; have HBb := Aside0.mk (below_step (by first | exact HBa.out | exact HBa.out.drew) h); clear h)))
      all_goals
        go_wp2_with fail
        have HE := Aside0.mk (HD.out.then_ HBb.out)
        clear HD HBb HBa HB0 HCL
        go_loopw [14] (fun v14 wr => ∃ (i : Nat), i ≤ B.length ∧ v14 = .int .i64 i ∧ Aside0 (Here w wr [RawT 2 55 (.slice A9 B.length c9) (rowsR B), RecsT (.slice A8 B.length c8) B, CellsT w1.heap.size #[.int .i64 k0, .string s0] 55, CellsT w.heap.size #[.int .i64 k0, .slice A0 l0.length c0] 49])) (fun v14 _ => B.length - (intOf v14).toNat)
        case atStart => exact ⟨0, by omega, rfl, HE⟩
        case round =>
          clear HE
          obtain ⟨i, hi, rfl, HE⟩ := hrel
          by_cases hil : i < B.length
          · have z1 : decide ((i : Int) < (B.length : Int)) = true := decide_eq_true (by omega)
            have z3 : IntKind.i64.wrap ((i : Int) + 1) = (i : Int) + 1 := IntWalk.i64_in _ ⟨by omega, by omega⟩
            obtain ⟨ad, A3, c3, rfl, e0, e1, k3, C3⟩ := atR (recs_of HE.out.swap) i hil rfl
            obtain ⟨ae, rfl, f0, f1⟩ := atRaw2 (raw_of HE.out) (rowsR_get hil)
            generalize B[i] = r at e0 e1 k3 C3 f0 f1
            obtain ⟨rk, rb⟩ := r
            simp only at e0 e1 k3 C3 f0 f1
            obtain ⟨sb, hsb⟩ : ∃ sb, sb = strOfNums rb := ⟨_, rfl⟩
            rw [← hsb] at f1
            have HSB := Aside0.mk hsb
            have HC3 := Aside0.mk C3
            have HS := Aside0.mk (And.intro e0 (And.intro e1 (And.intro f0 f1)))
            have HB0 := Aside0.mk (Below.refl wr.heap.size wr)
            clear C3 hsb
            go_wp2_with fail
            go_region_held3 (fun w' => w'.cell? (ad.add (i * 2)) = some (.int .i64 rk) ∧ w'.cell? ⟨(ad.add (i * 2)).block, (ad.add (i * 2)).off + 1, none⟩ = some (.slice A3 rb.length c3) ∧ w'.cell? (ae.add (i * 2)) = some (.int .i64 rk) ∧ w'.cell? ⟨(ae.add (i * 2)).block, (ae.add (i * 2)).off + 1, none⟩ = some (.string sb))
              (first
                | exact cells_keep4 HS.out HBa.out
                | exact HS.out
                | exact cells_keep4 HS.out HBa.out.drew
                | exact cells_keep4 HS.out HB0.out.drew)
              (first
                | (go_at_call 30; go_must (refine (Go.Proofs.Ytmbemlpmfklddaa.PFramesTell.truglaw13_As.calls rk A3 c3 rb rk sb _ (by exact Kd.C_below HC3.out (by first | exact HB0.out | exact HB0.out.drew)) k3 (by rw [HSB.out]; rfl)).mono ?_; rintro e w8 ⟨rfl, h⟩; have HBa := Aside0.mk (below_step (by first | exact HB0.out | exact HB0.out.drew) h); clear h)))
            all_goals
              go_wp2_with fail
              go_roundw
              case rel => exact ⟨i + 1, by omega, by go_num, ⟨HE.out.then_ HBa.out⟩⟩
              case measure => simp [intOf]; omega
          · have z1 : decide ((i : Int) < (B.length : Int)) = false := decide_eq_false (by omega)
            have z4 : ¬ i < B.length := hil
            obtain ⟨d0, d1, dl⟩ := cells2_of (Here.nth HE.out 2 (by simp))
            have HSZ := Aside0.mk (if_neg GOK.out : (if okR (k0, l0) then (l0.length : Int) + 9 else 0) = 0)
            go_wp2_with (first
              | (go_at_call 33; go_must (refine (RefRight_eq k0 l0 s0 _ HS0.out).mono ?_; rw [← HOK.out]; rintro e w7 ⟨rfl, h⟩; have HF := Aside0.mk (HE.out.then_ h); clear h HE d0 d1 dl))
              | (go_at_call 27; go_must (refine (alive13 _).mono ?_; rintro e w8 ⟨rfl, h⟩; have HG := Aside0.mk (HF.out.then_ h); obtain ⟨d0, d1, dl⟩ := cells2_of (Here.nth HG.out 3 (by simp)); clear h HF))
              | (go_at_call 34; go_must (refine (Size_calls (k0, l0) A0 c0 _ (Kd.C_below H0.out HG.out.below) k00).mono ?_; rw [HSZ.out]; rintro e w9 ⟨rfl, h⟩; have HI := Aside0.mk (HG.out.then_ h); clear h HG d0 d1 dl)))
            go_ret
            exact ⟨rfl, HI.out.below⟩
theorem FramesTell_calls (k0 : Int) (A0 : Option Addr) (c0 : Nat) (l0 : List Int) (A1 : Option Addr) (c1 : Nat) (l1 : List Int) (w : World)
    (h0 : (Kd.int .u8).C w A0 l0.length l0) (k00 : l0.length ≤ c0) (q0 : ∀ x ∈ l0, 0 ≤ x ∧ x < 256) (h1 : (Kd.int .u8).C w A1 l1.length l1) (k1 : l1.length ≤ c1) (b1 : ∀ x ∈ l1, 0 ≤ x ∧ x < 256) :
    Calls Try.prog 10 #[.agg #[.int .i64 k0, .slice A0 l0.length c0], .slice A1 l1.length c1] w fun e w' => e = .returned (.bool true) ∧ Below w.heap.size w w' := by
  by_cases g : (2000 < (l0.length : Int) ∧ (l0.length : Int) ≤ 60000) ∨ 60010 < (l0.length : Int) ∨ 3000 < (l1.length : Int)
  · exact FramesTell_long k0 A0 c0 l0 A1 c1 l1 w g
  · exact FramesTell_main k0 A0 c0 l0 A1 c1 l1 w h0 k00 q0 h1 k1 b1 g
end Go.Proofs.Ytmbemlpmfklddaa.Own
