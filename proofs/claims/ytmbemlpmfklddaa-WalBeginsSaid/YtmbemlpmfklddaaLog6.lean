/- Two rows that are only read, as one thing; split beside other things; Open. The run of alive, on lists: what the disk has at each step. -/
import Derived.Test.YtmbemlpmfklddaaLog4
import Derived.Test.YtmbemlpmfklddaaLog5
import Derived.Test.YtmbemlpmfklddaaLog3
import Derived.Test.YtmbemlpmfklddaaLog2
namespace Go.Proofs.Ytmbemlpmfklddaa.Own
open Go.RowKit Go.Proofs.YtmbemlpmfklddaaW.PrintWords Go.Proofs.YtmbemlpmfklddaaW.PrintLast Go.Proofs.YtmbemlpmfklddaaW.PrintMore
/-- Two rows of bytes that are only read; both may lead into the same blocks. -/
def TwoT (vp : Value) (P : List (List Int)) (vr : Value) (R : List (List Int)) : Thing where
  at_ W S := (∃ A c, vp = .slice A P.length c ∧ Kd.F BL W S A P.length P) ∧ (∃ A c, vr = .slice A R.length c ∧ Kd.F BL W S A R.length R) ∧ ∀ k, S k → k < W.heap.size
  chg h hc hn := by
    obtain ⟨⟨A, c, e, hF⟩, ⟨B, c', e', hG⟩, hl⟩ := h
    exact ⟨⟨A, c, e, F_chg hF hc hn⟩, ⟨B, c', e', F_chg hG hc hn⟩, fun k hk => Nat.lt_of_lt_of_le (hl k hk) hc.size⟩
  lt h := h.2.2
section
variable {w W : World} {Ps : List Thing} {v vp vr : Value} {P R : List (List Int)} {L : List Rec}
theorem Here.two (h : Here w W (TwoT vp P vr R :: Ps)) : ∃ A c B c', vp = .slice A P.length c ∧ vr = .slice B R.length c' ∧ BL.C W A P.length P ∧ BL.C W B R.length R := by
  obtain ⟨S, ⟨⟨A, c, e, hF⟩, ⟨B, c', e', hG⟩, _⟩, _⟩ := h.get
  exact ⟨A, c, B, c', e, e', Kd.F_now hF, Kd.F_now hG⟩
theorem split_here {A : Option Addr} {n c : Nat} (h : Here w W (RecsT (.slice A n c) L :: Ps)) (hL : L.length ≤ 300000) :
    Calls Try.prog 75 #[.slice A n c] W fun e W' =>
      (∃ P R vp vr, splitR L [] [] = some (P, R) ∧ e = .returned (.tuple #[vp, vr, .bool true]) ∧ Here w W' (TwoT vp P vr R :: Ps)) ∨
      (splitR L [] [] = none ∧ e = .returned (.tuple #[.slice none 0 0, .slice none 0 0, .bool false]) ∧ Here w W' (RecsT (.slice A n c) L :: Ps)) := by
  obtain ⟨S, ⟨hN, hlt⟩, hS, h2⟩ := h.get
  obtain ⟨rfl, _, _⟩ := Kd.N_reads' hN
  refine (split_calls A c L W S hL (Kd.N_F hN)).mono ?_
  rintro e W' (⟨P, R, vp, vr, rowsP, rowsR, hs, rfl, hH, hP, hR⟩ | ⟨hs, rfl, hb⟩)
  · refine .inl ⟨P, R, vp, vr, hs, rfl, ?_⟩
    obtain ⟨S0, ⟨S1, S2, ⟨hv1, hv1'⟩, ⟨S3, S4, ⟨hv2, hv2'⟩, _, _, h4⟩, _, h5⟩, h6, h7⟩ := hH
    refine h2 (P' := TwoT vp P vr R) (S' := fun k => S0 k ∨ (S k ∧ k < W.heap.size)) ⟨?_, ?_, ?_⟩ (Chg.of_below S h7) (fun k hk => ?_)
    · obtain ⟨A1, c1, rfl, _, _⟩ := Kd.R_reads hv1
      refine ⟨A1, c1, by rw [hP.1], ?_⟩
      refine Kd.F_mono (rows_F (Kd.R_F hv1) hP h7) (fun k hk => ?_)
      rcases hk with hk | hk
      · exact .inl (h5 k (.inl ((hv1' k).2 hk.symm)))
      · exact .inr hk
    · obtain ⟨A1, c1, rfl, _, _⟩ := Kd.R_reads hv2
      refine ⟨A1, c1, by rw [hR.1], ?_⟩
      refine Kd.F_mono (rows_F (Kd.R_F hv2) hR h7) (fun k hk => ?_)
      rcases hk with hk | hk
      · exact .inl (h5 k (.inr (h4 k (.inl ((hv2' k).2 hk.symm)))))
      · exact .inr hk
    · intro k hk
      rcases hk with hk | hk
      · exact (h6 k hk).2
      · exact Nat.lt_of_lt_of_le hk.2 h7.size
    · rcases hk with hk | hk
      · exact .inr (h6 k hk).1
      · exact .inl hk.1
  · exact .inr ⟨hs, rfl, h.then_ hb⟩
theorem split_yes {A : Option Addr} {n c : Nat} (h : Here w W (RecsT (.slice A n c) L :: Ps)) (hL : L.length ≤ 300000) (hp : splitR L [] [] = some (P, R)) :
    Calls Try.prog 75 #[.slice A n c] W fun e W' => ∃ vp vr, e = .returned (.tuple #[vp, vr, .bool true]) ∧ Here w W' (TwoT vp P vr R :: Ps) := by
  refine (split_here h hL).mono ?_
  rw [hp]
  rintro e W' (⟨P', R', vp, vr, h1, h2, h3⟩ | ⟨h1, _⟩)
  · injection h1 with h1
    injection h1 with e1 e2
    subst e1 e2
    exact ⟨vp, vr, h2, h3⟩
  · cases h1
theorem split_no {A : Option Addr} {n c : Nat} (h : Here w W (RecsT (.slice A n c) L :: Ps)) (hL : L.length ≤ 300000) (hp : splitR L [] [] = none) :
    Calls Try.prog 75 #[.slice A n c] W fun e W' => e = .returned (.tuple #[.slice none 0 0, .slice none 0 0, .bool false]) ∧ Here w W' (RecsT (.slice A n c) L :: Ps) := by
  refine (split_here h hL).mono ?_
  rw [hp]
  rintro e W' (⟨P', R', vp, vr, h1, h2, h3⟩ | ⟨_, h2, h3⟩)
  · cases h1
  · exact ⟨h2, h3⟩
end
theorem results_tmp4 {fn : Func} {t u v x : Tmp} (h : fn.results = #[.tmp t, .tmp u, .tmp v, .tmp x]) (tmps : Array Value) (P : Program) (w : World) :
    (results fn tmps).run P w = .ok (.tuple #[tmps.getD t undef, tmps.getD u undef, tmps.getD v undef, tmps.getD x undef]) w := by
  simp [results, h]
set_option maxHeartbeats 400000 in
set_option maxRecDepth 100000 in
theorem Open_nil (w : World) : Calls Try.prog 40 #[.pointer none] w fun e w' => e = .returned (.tuple #[.pointer none, .slice none 0 0, .slice none 0 0, .int .i64 6]) ∧ w = w' := by
  go_enter Try.func40, Try.ntmps40
  go_wp2_with (go_at_call 62; go_must (refine (Size_nil _).mono ?_; rintro e w' ⟨rfl, rfl⟩))
  (try simp only [Exit.inBlock, Exit.then])
  refine bodyPost_ret (results_tmp4 rfl _ _ _) rfl ?_
  exact ⟨rfl, rfl⟩
section
variable {w W : World} {Ps : List Thing} {g : Nat} {d : Dm}
/-- What the slots tell, as the walk asks for it. -/
theorem slots_ways {g0 g1 : Int} {a0 a1 : Nat} (h0 : (g0, a0) = toldR (d.read 0 16) 0) (h1 : (g1, a1) = toldR (d.read 16 16) 1) {gen : Int} {area : Nat} (hs : slotsG d = (gen, area)) :
    (decide (g0 < g1) = true ∧ g0 < g1 ∧ gen = g1 ∧ area = a1) ∨ (decide (g0 < g1) = false ∧ ¬ g0 < g1 ∧ gen = g0 ∧ area = a0) := by
  unfold slotsG at hs
  rw [← h0, ← h1] at hs
  by_cases hc : g0 < g1
  · rw [if_pos hc] at hs
    injection hs with e1 e2
    exact .inl ⟨decide_eq_true hc, hc, e1.symm, e2.symm⟩
  · rw [if_neg hc] at hs
    injection hs with e1 e2
    exact .inr ⟨decide_eq_false hc, hc, e1.symm, e2.symm⟩
theorem read_at (h : Here w W (DiskT g d :: Ps)) (hq : d.q.length ≤ 1000000) (hB : ByD d) (i : Nat) (hi : i ≤ 1) {gi : Int} {ai : Nat} (hg : (gi, ai) = toldR (d.read (i * 16) 16) i) :
    Calls Try.prog 72 #[.pointer (some ⟨g, 0, none⟩), .int .i64 i] W fun e W' => e = .returned (.tuple #[.int .u32 gi, .int .i64 ai]) ∧ Here w W' (DiskT g d :: Ps) := by
  have ho := h.diskOk
  have := read_here h hq i hi (hB.read ho _ _) (read_length ho (by have := ho.lo; omega))
  rw [← hg] at this
  exact this
set_option maxHeartbeats 8000000 in
set_option maxRecDepth 100000 in
theorem Open_none (h : Here w W (DiskT g d :: Ps)) (hq : d.q.length ≤ 999000) (hB : ByD d) (area : Nat) (hs : slotsG d = (0, area)) :
    Calls Try.prog 40 #[.pointer (some ⟨g, 0, none⟩)] W fun e W' => e = .returned (.tuple #[.pointer none, .slice none 0 0, .slice none 0 0, .int .i64 4]) ∧ Here w W' (DiskT g d :: Ps) := by
  have HH := Aside0.mk h
  have hlo := h.diskOk.lo
  have HB := Aside0.mk hB
  obtain ⟨⟨g0, a0⟩, hg0⟩ : ∃ x, x = toldR (d.read 0 16) 0 := ⟨_, rfl⟩
  obtain ⟨⟨g1, a1⟩, hg1⟩ : ∃ x, x = toldR (d.read 16 16) 1 := ⟨_, rfl⟩
  have HG0 := Aside0.mk hg0
  have HG1 := Aside0.mk hg1
  have hw := slots_ways hg0 hg1 hs
  have q0 : ((d.b.length : Int) == 0) = false := beq_eq_false_iff_ne.mpr (by omega)
  have t0 : True := trivial
  have t1 : True := trivial
  clear h hg0 hg1 hs hB
  rcases hw with ⟨k1, k2, rfl, rfl⟩ | ⟨k1, k2, rfl, rfl⟩
  all_goals
    go_enter Try.func40, Try.ntmps40
    go_wp2_with (first
      | (go_at_call 62; go_must (refine (Size_here HH.out).mono ?_; rintro e w1 ⟨rfl, rfl⟩))
      | (go_at_call 72; have _t := t0; clear t0; go_must (refine (read_at HH.out (by omega) HB.out 0 (by omega) HG0.out).mono ?_; rintro e w1 ⟨rfl, h⟩; have HI := Aside0.mk h; clear h HH))
      | (go_at_call 72; have _t := t1; go_must (refine (read_at HI.out (by omega) HB.out 1 (by omega) HG1.out).mono ?_; rintro e w1 ⟨rfl, h⟩; have HJ := Aside0.mk h; clear h HI)))
    (try simp only [Exit.inBlock, Exit.then])
    refine bodyPost_ret (results_tmp4 rfl _ _ _) rfl ?_
    exact ⟨rfl, HJ.out⟩
set_option maxHeartbeats 8000000 in
set_option maxRecDepth 100000 in
theorem Open_bad (h : Here w W (DiskT g d :: Ps)) (hq : d.q.length ≤ 999000) (hB : ByD d) (gen : Int) (area tail : Nat) (L : List Rec) (er : Int) (hs : slotsG d = (gen, area)) (hg : gen ≠ 0) (hr : readR (areaB d area) = (L, tail, er)) (he : er ≠ 0) :
    Calls Try.prog 40 #[.pointer (some ⟨g, 0, none⟩)] W fun e W' => e = .returned (.tuple #[.pointer none, .slice none 0 0, .slice none 0 0, .int .i64 er]) ∧ Here w W' (DiskT g d :: Ps) := by
  have HH := Aside0.mk h
  have ho := h.diskOk
  have hlo := ho.lo
  have hhi := ho.hi
  have HB := Aside0.mk hB
  obtain ⟨⟨g0, a0⟩, hg0⟩ : ∃ x, x = toldR (d.read 0 16) 0 := ⟨_, rfl⟩
  obtain ⟨⟨g1, a1⟩, hg1⟩ : ∃ x, x = toldR (d.read 16 16) 1 := ⟨_, rfl⟩
  have HG0 := Aside0.mk hg0
  have HG1 := Aside0.mk hg1
  have hw := slots_ways hg0 hg1 hs
  have ha : area ≤ 1 := by have := (slots_range hB ho).2; rw [hs] at this; exact this
  have q0 : ((d.b.length : Int) == 0) = false := beq_eq_false_iff_ne.mpr (by omega)
  have qg : (gen == 0) = false := beq_eq_false_iff_ne.mpr hg
  obtain ⟨z, hz⟩ : ∃ z, z = Sz d := ⟨_, rfl⟩
  have hz2 : 2 * z + 32 ≤ d.b.length := by rw [hz]; unfold Sz; omega
  have HZ := Aside0.mk hz
  obtain ⟨p, hp⟩ : ∃ p, p = plc d area 0 := ⟨_, rfl⟩
  have HP := Aside0.mk hp
  have HF := Aside0.mk (show d.fits p z by
    have := plc_fits ho ha (f := 0) (by omega)
    unfold Dm.fits
    rw [hp, hz]
    omega)
  obtain ⟨b, hb⟩ : ∃ b, b = areaB d area := ⟨_, rfl⟩
  have HBB := Aside0.mk (show b = d.read p z by rw [hb, hp, hz]; rfl)
  have hbl : b.length = z := by rw [hb, area_len ho ha, hz]
  have HBL := Aside0.mk hbl
  have HBY := Aside0.mk (show Byt b by rw [hb]; exact hB.read ho _ _)
  rw [← hb] at hr
  have HR := Aside0.mk hr
  have htl : tail ≤ z := by have := readR_len b; rw [hr] at this; rw [← hbl]; exact this
  have t0 : True := trivial
  have t1 : True := trivial
  clear h hg0 hg1 hs hB ho hz hp hb hbl hr
  have qe : (er != 0) = true := bne_iff_ne.mpr he
  rcases hw with ⟨k1, k2, rfl, rfl⟩ | ⟨k1, k2, rfl, rfl⟩
  all_goals
    go_enter Try.func40, Try.ntmps40
    go_wp2_with (first
      | (go_at_call 62; go_must (refine (Size_here HH.out).mono ?_; rintro e w1 ⟨rfl, rfl⟩))
      | (go_at_call 72; have _t := t0; clear t0; go_must (refine (read_at HH.out (by omega) HB.out 0 (by omega) HG0.out).mono ?_; rintro e w1 ⟨rfl, h⟩; have HI := Aside0.mk h; clear h HH))
      | (go_at_call 72; have _t := t1; clear t1; go_must (refine (read_at HI.out (by omega) HB.out 1 (by omega) HG1.out).mono ?_; rintro e w1 ⟨rfl, h⟩; have HJ := Aside0.mk h; clear h HI))
      | (go_at_call 73; go_must (refine (place_here HJ.out _ 0 ha (by omega)).mono ?_; rw [← HP.out]; rintro e w1 ⟨rfl, rfl⟩))
      | (go_at_call 74; go_must (refine (size_here HJ.out).mono ?_; rw [← HZ.out]; rintro e w1 ⟨rfl, rfl⟩))
      | (go_at_call 24; go_must (refine (Read_here HJ.out (by omega) p z HF.out).mono ?_; rw [← HBB.out]; rintro e w2 ⟨v, rfl, h⟩; obtain ⟨A6, c6, rfl, k6, _⟩ := h.bytes.slice; have HK := Aside0.mk h; clear h HJ))
      | (go_at_call 29; go_must (refine (ReadF_here HK.out A6 c6 b (bytes_of HK.out) k6 HBY.out (by rw [HBL.out]; omega)).mono ?_; rw [HR.out]; rintro e w3 ⟨v, rfl, h⟩; obtain ⟨A7, c7, rfl, k7, _⟩ := h.recs; have HL := Aside0.mk h; clear h HK)))
    (try simp only [Exit.inBlock, Exit.then])
    refine bodyPost_ret (results_tmp4 rfl _ _ _) rfl ?_
    exact ⟨rfl, HL.out.drop.drop⟩
set_option maxHeartbeats 8000000 in
set_option maxRecDepth 100000 in
theorem Open_form (h : Here w W (DiskT g d :: Ps)) (hq : d.q.length ≤ 999000) (hB : ByD d) (gen : Int) (area tail : Nat) (L : List Rec) (hs : slotsG d = (gen, area)) (hg : gen ≠ 0) (hr : readR (areaB d area) = (L, tail, 0)) (hL : L.length ≤ 300000) (hp : splitR L [] [] = none) :
    Calls Try.prog 40 #[.pointer (some ⟨g, 0, none⟩)] W fun e W' => e = .returned (.tuple #[.pointer none, .slice none 0 0, .slice none 0 0, .int .i64 3]) ∧ Here w W' (DiskT g d :: Ps) := by
  have HSP := Aside0.mk hp
  clear hp
  have HH := Aside0.mk h
  have ho := h.diskOk
  have hlo := ho.lo
  have hhi := ho.hi
  have HB := Aside0.mk hB
  obtain ⟨⟨g0, a0⟩, hg0⟩ : ∃ x, x = toldR (d.read 0 16) 0 := ⟨_, rfl⟩
  obtain ⟨⟨g1, a1⟩, hg1⟩ : ∃ x, x = toldR (d.read 16 16) 1 := ⟨_, rfl⟩
  have HG0 := Aside0.mk hg0
  have HG1 := Aside0.mk hg1
  have hw := slots_ways hg0 hg1 hs
  have ha : area ≤ 1 := by have := (slots_range hB ho).2; rw [hs] at this; exact this
  have q0 : ((d.b.length : Int) == 0) = false := beq_eq_false_iff_ne.mpr (by omega)
  have qg : (gen == 0) = false := beq_eq_false_iff_ne.mpr hg
  obtain ⟨z, hz⟩ : ∃ z, z = Sz d := ⟨_, rfl⟩
  have hz2 : 2 * z + 32 ≤ d.b.length := by rw [hz]; unfold Sz; omega
  have HZ := Aside0.mk hz
  obtain ⟨p, hp⟩ : ∃ p, p = plc d area 0 := ⟨_, rfl⟩
  have HP := Aside0.mk hp
  have HF := Aside0.mk (show d.fits p z by
    have := plc_fits ho ha (f := 0) (by omega)
    unfold Dm.fits
    rw [hp, hz]
    omega)
  obtain ⟨b, hb⟩ : ∃ b, b = areaB d area := ⟨_, rfl⟩
  have HBB := Aside0.mk (show b = d.read p z by rw [hb, hp, hz]; rfl)
  have hbl : b.length = z := by rw [hb, area_len ho ha, hz]
  have HBL := Aside0.mk hbl
  have HBY := Aside0.mk (show Byt b by rw [hb]; exact hB.read ho _ _)
  rw [← hb] at hr
  have HR := Aside0.mk hr
  have htl : tail ≤ z := by have := readR_len b; rw [hr] at this; rw [← hbl]; exact this
  have t0 : True := trivial
  have t1 : True := trivial
  clear h hg0 hg1 hs hB ho hz hp hb hbl hr
  rcases hw with ⟨k1, k2, rfl, rfl⟩ | ⟨k1, k2, rfl, rfl⟩
  all_goals
    go_enter Try.func40, Try.ntmps40
    go_wp2_with (first
      | (go_at_call 62; go_must (refine (Size_here HH.out).mono ?_; rintro e w1 ⟨rfl, rfl⟩))
      | (go_at_call 72; have _t := t0; clear t0; go_must (refine (read_at HH.out (by omega) HB.out 0 (by omega) HG0.out).mono ?_; rintro e w1 ⟨rfl, h⟩; have HI := Aside0.mk h; clear h HH))
      | (go_at_call 72; have _t := t1; clear t1; go_must (refine (read_at HI.out (by omega) HB.out 1 (by omega) HG1.out).mono ?_; rintro e w1 ⟨rfl, h⟩; have HJ := Aside0.mk h; clear h HI))
      | (go_at_call 73; go_must (refine (place_here HJ.out _ 0 ha (by omega)).mono ?_; rw [← HP.out]; rintro e w1 ⟨rfl, rfl⟩))
      | (go_at_call 74; go_must (refine (size_here HJ.out).mono ?_; rw [← HZ.out]; rintro e w1 ⟨rfl, rfl⟩))
      | (go_at_call 24; go_must (refine (Read_here HJ.out (by omega) p z HF.out).mono ?_; rw [← HBB.out]; rintro e w2 ⟨v, rfl, h⟩; obtain ⟨A6, c6, rfl, k6, _⟩ := h.bytes.slice; have HK := Aside0.mk h; clear h HJ))
      | (go_at_call 29; go_must (refine (ReadF_here HK.out A6 c6 b (bytes_of HK.out) k6 HBY.out (by rw [HBL.out]; omega)).mono ?_; rw [HR.out]; rintro e w3 ⟨v, rfl, h⟩; obtain ⟨A7, c7, rfl, k7, _⟩ := h.recs; have HL := Aside0.mk h; clear h HK))
      | (go_at_call 75; go_must (refine (split_no HL.out hL HSP.out).mono ?_; rintro e w4 ⟨rfl, h⟩; have HM := Aside0.mk h; clear h HL)))
    (try simp only [Exit.inBlock, Exit.then])
    refine bodyPost_ret (results_tmp4 rfl _ _ _) rfl ?_
    exact ⟨rfl, HM.out.drop.drop⟩
set_option maxHeartbeats 8000000 in
set_option maxRecDepth 100000 in
theorem Open_yes (h : Here w W (DiskT g d :: Ps)) (hq : d.q.length ≤ 999000) (hB : ByD d) (gen : Int) (area tail : Nat) (L : List Rec) (P R : List (List Int)) (hs : slotsG d = (gen, area)) (hg : gen ≠ 0) (hr : readR (areaB d area) = (L, tail, 0)) (hL : L.length ≤ 300000) (hp : splitR L [] [] = some (P, R)) :
    Calls Try.prog 40 #[.pointer (some ⟨g, 0, none⟩)] W fun e W' => ∃ gl vp vr, e = .returned (.tuple #[.pointer (some ⟨gl, 0, none⟩), vp, vr, .int .i64 0]) ∧
      Here w W' (LogT gl g ⟨gen, area, tail, 0, 0, 0⟩ (.slice none 0 0) :: DiskT g (d.write (plc d area tail) (List.replicate (Sz d - tail) 0)) :: TwoT vp P vr R :: Ps) := by
  have HSP := Aside0.mk hp
  clear hp
  have HH := Aside0.mk h
  have ho := h.diskOk
  have hlo := ho.lo
  have hhi := ho.hi
  have HB := Aside0.mk hB
  obtain ⟨⟨g0, a0⟩, hg0⟩ : ∃ x, x = toldR (d.read 0 16) 0 := ⟨_, rfl⟩
  obtain ⟨⟨g1, a1⟩, hg1⟩ : ∃ x, x = toldR (d.read 16 16) 1 := ⟨_, rfl⟩
  have HG0 := Aside0.mk hg0
  have HG1 := Aside0.mk hg1
  have hw := slots_ways hg0 hg1 hs
  have ha : area ≤ 1 := by have := (slots_range hB ho).2; rw [hs] at this; exact this
  have q0 : ((d.b.length : Int) == 0) = false := beq_eq_false_iff_ne.mpr (by omega)
  have qg : (gen == 0) = false := beq_eq_false_iff_ne.mpr hg
  obtain ⟨z, hz⟩ : ∃ z, z = Sz d := ⟨_, rfl⟩
  have hz2 : 2 * z + 32 ≤ d.b.length := by rw [hz]; unfold Sz; omega
  have HZ := Aside0.mk hz
  obtain ⟨p, hp⟩ : ∃ p, p = plc d area 0 := ⟨_, rfl⟩
  have HP := Aside0.mk hp
  have HF := Aside0.mk (show d.fits p z by
    have := plc_fits ho ha (f := 0) (by omega)
    unfold Dm.fits
    rw [hp, hz]
    omega)
  obtain ⟨b, hb⟩ : ∃ b, b = areaB d area := ⟨_, rfl⟩
  have HBB := Aside0.mk (show b = d.read p z by rw [hb, hp, hz]; rfl)
  have hbl : b.length = z := by rw [hb, area_len ho ha, hz]
  have HBL := Aside0.mk hbl
  have HBY := Aside0.mk (show Byt b by rw [hb]; exact hB.read ho _ _)
  rw [← hb] at hr
  have HR := Aside0.mk hr
  have htl : tail ≤ z := by have := readR_len b; rw [hr] at this; rw [← hbl]; exact this
  have t0 : True := trivial
  have t1 : True := trivial
  clear h hg0 hg1 hs hB ho hz hp hb hbl hr
  rcases hw with ⟨k1, k2, rfl, rfl⟩ | ⟨k1, k2, rfl, rfl⟩
  all_goals
    go_enter Try.func40, Try.ntmps40
    go_wp2_with (first
      | (go_at_call 62; go_must (refine (Size_here HH.out).mono ?_; rintro e w1 ⟨rfl, rfl⟩))
      | (go_at_call 72; have _t := t0; clear t0; go_must (refine (read_at HH.out (by omega) HB.out 0 (by omega) HG0.out).mono ?_; rintro e w1 ⟨rfl, h⟩; have HI := Aside0.mk h; clear h HH))
      | (go_at_call 72; have _t := t1; clear t1; go_must (refine (read_at HI.out (by omega) HB.out 1 (by omega) HG1.out).mono ?_; rintro e w1 ⟨rfl, h⟩; have HJ := Aside0.mk h; clear h HI))
      | (go_at_call 73; go_must (refine (place_here HJ.out _ 0 ha (by omega)).mono ?_; rw [← HP.out]; rintro e w1 ⟨rfl, rfl⟩))
      | (go_at_call 74; go_must (refine (size_here HJ.out).mono ?_; rw [← HZ.out]; rintro e w1 ⟨rfl, rfl⟩))
      | (go_at_call 24; go_must (refine (Read_here HJ.out (by omega) p z HF.out).mono ?_; rw [← HBB.out]; rintro e w2 ⟨v, rfl, h⟩; obtain ⟨A6, c6, rfl, k6, _⟩ := h.bytes.slice; have HK := Aside0.mk h; clear h HJ))
      | (go_at_call 29; go_must (refine (ReadF_here HK.out A6 c6 b (bytes_of HK.out) k6 HBY.out (by rw [HBL.out]; omega)).mono ?_; rw [HR.out]; rintro e w3 ⟨v, rfl, h⟩; obtain ⟨A7, c7, rfl, k7, _⟩ := h.recs; have HL := Aside0.mk h; clear h HK))
      | (go_at_call 75; go_must (refine (split_yes HL.out hL HSP.out).mono ?_; rintro e w4 ⟨vp, vr, rfl, h⟩; have HM := Aside0.mk h; clear h HL))
      | (go_at_call 76; go_must (refine (noughts_here (Here.nth HM.out 2 (by simp)) (by omega) _ tail ha (by rw [← HZ.out]; exact htl)).mono ?_; rw [← HZ.out]; rintro e w5 ⟨rfl, h⟩; have HN := Aside0.mk h; clear h HM)))
    (try simp only [Exit.inBlock, Exit.then])
    refine bodyPost_ret (results_tmp4 rfl _ _ _) rfl ?_
    have hy := HN.out.newCells (lgC g ⟨gen, area, tail, 0, 0, 0⟩ (.slice none 0 0)) 103
    refine ⟨_, vp, vr, rfl, ?_⟩
    rw [← HZ.out]
    exact (Here.nth hy 3 (by simp)).drop
end
end Go.Proofs.Ytmbemlpmfklddaa.Own
namespace Go.Proofs.Ytmbemlpmfklddaa.Own
open Go.RowKit
theorem readR_few (b : List Int) : (readR b).1.length ≤ (readR b).2.1 := by
  induction hn : b.length using Nat.strongRecOn generalizing b with
  | ind n ih =>
    by_cases h : 0 < (nextR b).2.1
    · have hl := next_le h
      rw [readR_step h]
      have := ih (b.drop (nextR b).2.1).length (by rw [List.length_drop]; omega) _ rfl
      simp only [List.length_cons]
      omega
    · rw [readR_stop (by omega)]
      exact Nat.le_refl _
def av0 : Dm := (Dm.new 400).format
def av1 : Dm := av0.write (plc av0 0 0) (frameR (2, [97, 98]))
def av2 : Dm := av1.flush
def av3 : Dm := av2.write (plc av2 0 11) (frameR (2, [99]))
def av4 : Dm := av3.settle 3
def av5 : Dm := av4.write (plc av4 0 11) (List.replicate (Sz av4 - 11) 0)
def avP : List Int := framesOf (recsOf 1 [[115, 116, 97, 116, 101]])
def av6 : Dm := av5.flush.write (plc av5 1 0) (List.replicate (Sz av5) 0)
def av7 : Dm := av6.flush.write (plc av6 1 0) avP
def av8 : Dm := av7.flush.write ((1 + 1) % 2 * 16) (slotB (1 + 1) 1)
def av9 : Dm := av8.flush.write (plc av8 0 0) (List.replicate (Sz av8) 0)
def av10 : Dm := av9.flush
theorem av_slots4 : slotsG av4 = (1, 0) := by decide +kernel
theorem av_read4 : readR (areaB av4 0) = ([(2, [97, 98])], 11, 0) := by decide +kernel
theorem av_slots10 : slotsG av10 = (2, 1) := by decide +kernel
theorem av_read10 : readR (areaB av10 1) = ([(1, [115, 116, 97, 116, 101])], 14, 0) := by decide +kernel
theorem av_area0 : av10.read (plc av10 0 0) (Sz av10) = List.replicate 184 0 := by decide +kernel
end Go.Proofs.Ytmbemlpmfklddaa.Own
