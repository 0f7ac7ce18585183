/- The reference's log: Step. -/
import Derived.Test.YtmbemlpmfklddaaRlB
import Derived.Test.YtmbemlpmfklddaaLgc
namespace Go.Proofs.Ytmbemlpmfklddaa.Own
open Go.RowKit Go.Proofs.YtmbemlpmfklddaaW.PrintWords Go.Proofs.YtmbemlpmfklddaaW.PrintLast Go.Proofs.YtmbemlpmfklddaaW.PrintMore
section
variable {w W : World} {Ps : List Thing} {gr gx : Nat} {sp : ByteArray} {d : Dm} {va vt : Value} {gen : Int} {area tail all sure : Nat}
theorem RefSize_eq {g : Nat} (h : RefH w W g d va vt Ps) (z : Nat) (hz : z = Sz d) (h1 : 32 ≤ d.b.length) (h2 : d.b.length ≤ 262144) :
    Calls Try.prog 78 #[.pointer (some ⟨g, 0, none⟩)] W fun e W' => e = .returned (.int .i64 z) ∧ W = W' := by
  subst hz
  exact RefSize h h1 h2
theorem fits_mk {d : Dm} {p n z : Nat} (h : p + z ≤ d.b.length) (hn : n ≤ z) : d.fits (p : Nat) n := ⟨by omega, by omega, by omega⟩
set_option maxHeartbeats 8000000 in
set_option maxRecDepth 100000 in
theorem RlStep_0 (h : RlH w W gr gx ⟨gen, area, tail, all, sure, 0⟩ sp d va vt Ps) (ho : d.Ok) (_hq : d.q.length ≤ 999000) (ha : area ≤ 1) :
    Calls Try.prog 89 #[.pointer (some ⟨gr, 0, none⟩)] W fun e W' => e = .returned (.tuple #[.int .i64 0, .int .i64 4]) ∧ RlH w W' gr gx ⟨gen, area, tail, all, sure, 0⟩ sp d va vt Ps := by
  have HH := Aside0.mk h
  have HO := Aside0.mk ho
  have hlo := ho.lo
  have hhi := ho.hi
  have K := Aside0.mk (And.intro (rl_cells h).1 (rl_cells h).2.2.1)
  have k6 : W.cell? ⟨gr, 6, none⟩ = some (.int .i64 0) := (rl_cells h).2.2.2.2.2.2.1
  obtain ⟨c0, _, c2, _⟩ := rl_cells h
  obtain ⟨z, hz⟩ : ∃ z, z = Sz d := ⟨_, rfl⟩
  have HZ := Aside0.mk hz
  have hz2 : 2 * z + 32 ≤ d.b.length := by rw [hz]; unfold Sz; omega
  obtain ⟨oth, hoth⟩ : ∃ oth, oth = 1 - area := ⟨_, rfl⟩
  have HOT := Aside0.mk hoth
  have ho1 : oth ≤ 1 := by omega
  have v1 : IntKind.i64.wrap (1 - (area : Int)) = (oth : Int) := by
    rw [hoth, show (1 : Int) - (area : Int) = ((1 - area : Nat) : Int) by omega]
    exact IntWalk.i64_in _ ⟨by omega, by omega⟩
  have hm : oth * z ≤ 1 * z := Nat.mul_le_mul_right z ho1
  have hma : area * z ≤ 1 * z := Nat.mul_le_mul_right z ha
  obtain ⟨m, hmm⟩ : ∃ m, m = oth * z := ⟨_, rfl⟩
  obtain ⟨ma, hmma⟩ : ∃ ma, ma = area * z := ⟨_, rfl⟩
  rw [← hmm] at hm
  rw [← hmma] at hma
  have v2 : IntKind.i64.wrap ((oth : Int) * (z : Int)) = (m : Int) := by
    rw [hmm, ← Int.natCast_mul]
    exact IntWalk.i64_in _ ⟨by omega, by omega⟩
  have v3 : IntKind.i64.wrap (32 + (m : Int)) = 32 + (m : Int) := IntWalk.i64_in _ ⟨by omega, by omega⟩
  have V4 := Aside0.mk (show IntKind.i64.wrap ((area : Int) * (z : Int)) = (ma : Int) by
    rw [hmma, ← Int.natCast_mul]
    exact IntWalk.i64_in _ ⟨by omega, by omega⟩)
  have V5 := Aside0.mk (show IntKind.i64.wrap (32 + (ma : Int)) = 32 + (ma : Int) from IntWalk.i64_in _ ⟨by omega, by omega⟩)
  obtain ⟨p, hp⟩ : ∃ p, p = plc d oth 0 := ⟨_, rfl⟩
  obtain ⟨pa, hpa⟩ : ∃ pa, pa = plc d area 0 := ⟨_, rfl⟩
  have hpm : p = 32 + m := by rw [hp, hmm, hz]; rfl
  have hpma : pa = 32 + ma := by rw [hpa, hmma, hz]; rfl
  have HP := Aside0.mk hp
  have HPA := Aside0.mk hpa
  have HPM := Aside0.mk (show 32 + (m : Int) = ((p : Nat) : Int) by omega)
  have HPMA := Aside0.mk (show 32 + (ma : Int) = ((pa : Nat) : Int) by omega)
  obtain ⟨d1, hd1⟩ : ∃ d1, d1 = d.flush := ⟨_, rfl⟩
  have HD1 := Aside0.mk hd1
  have HO1 := Aside0.mk (show d1.Ok by rw [hd1]; exact Dm.ok_flush ho)
  have HQ1 := Aside0.mk (show d1.q = [] by rw [hd1]; rfl)
  have hb1 : d1.b.length = d.b.length := by rw [hd1]; show d.now.length = _; exact Dm.now_length ho
  have HB1 := Aside0.mk hb1
  have HS1 := Aside0.mk (show z = Sz d1 by rw [hd1, Sz_flush ho, hz])
  have HPB := Aside0.mk (And.intro (show p + z ≤ d1.b.length by rw [hb1]; omega) (show pa + z ≤ d1.b.length by rw [hb1]; omega))
  clear h ho hz hoth hmm hmma hp hpa hpm hpma hd1 hb1
  go_enter Try.func89, Try.ntmps89
  go_wp2_with fail
  go_region_held3 (fun w' => w'.cell? ⟨gr, 0, none⟩ = some (.pointer (some ⟨gx, 0, none⟩)) ∧ w'.cell? ⟨gr, 2, none⟩ = some (.int .i64 area))
    (first
      | exact K.out)
    (first
      | (go_at_call 78; go_must (refine (RefSize (rl_disk HH.out.drew) (by omega) hhi).mono ?_; rw [← HZ.out]; rintro e w1 ⟨rfl, rfl⟩)))
  all_goals
    go_wp2_with fail
    go_ret2
    exact ⟨rfl, HH.out.drew⟩
set_option maxHeartbeats 8000000 in
set_option maxRecDepth 100000 in
theorem RlStep_1 (h : RlH w W gr gx ⟨gen, area, tail, all, sure, 1⟩ sp d va vt Ps) (ho : d.Ok) (hq : d.q.length ≤ 999000) (ha : area ≤ 1) :
    Calls Try.prog 89 #[.pointer (some ⟨gr, 0, none⟩)] W fun e W' => e = .returned (.tuple #[.int .i64 2, .int .i64 0]) ∧ ∃ va' vt', RlH w W' gr gx ⟨gen, area, tail, all, sure, 2⟩ sp (d.flush.write (plc d (1 - area) 0) (List.replicate (Sz d) 0)) va' vt' Ps := by
  have HH := Aside0.mk h
  have HO := Aside0.mk ho
  have hlo := ho.lo
  have hhi := ho.hi
  have K := Aside0.mk (And.intro (rl_cells h).1 (rl_cells h).2.2.1)
  have k6 : W.cell? ⟨gr, 6, none⟩ = some (.int .i64 1) := (rl_cells h).2.2.2.2.2.2.1
  obtain ⟨c0, _, c2, _⟩ := rl_cells h
  obtain ⟨z, hz⟩ : ∃ z, z = Sz d := ⟨_, rfl⟩
  have HZ := Aside0.mk hz
  have hz2 : 2 * z + 32 ≤ d.b.length := by rw [hz]; unfold Sz; omega
  obtain ⟨oth, hoth⟩ : ∃ oth, oth = 1 - area := ⟨_, rfl⟩
  have HOT := Aside0.mk hoth
  have ho1 : oth ≤ 1 := by omega
  have v1 : IntKind.i64.wrap (1 - (area : Int)) = (oth : Int) := by
    rw [hoth, show (1 : Int) - (area : Int) = ((1 - area : Nat) : Int) by omega]
    exact IntWalk.i64_in _ ⟨by omega, by omega⟩
  have hm : oth * z ≤ 1 * z := Nat.mul_le_mul_right z ho1
  have hma : area * z ≤ 1 * z := Nat.mul_le_mul_right z ha
  obtain ⟨m, hmm⟩ : ∃ m, m = oth * z := ⟨_, rfl⟩
  obtain ⟨ma, hmma⟩ : ∃ ma, ma = area * z := ⟨_, rfl⟩
  rw [← hmm] at hm
  rw [← hmma] at hma
  have v2 : IntKind.i64.wrap ((oth : Int) * (z : Int)) = (m : Int) := by
    rw [hmm, ← Int.natCast_mul]
    exact IntWalk.i64_in _ ⟨by omega, by omega⟩
  have v3 : IntKind.i64.wrap (32 + (m : Int)) = 32 + (m : Int) := IntWalk.i64_in _ ⟨by omega, by omega⟩
  have V4 := Aside0.mk (show IntKind.i64.wrap ((area : Int) * (z : Int)) = (ma : Int) by
    rw [hmma, ← Int.natCast_mul]
    exact IntWalk.i64_in _ ⟨by omega, by omega⟩)
  have V5 := Aside0.mk (show IntKind.i64.wrap (32 + (ma : Int)) = 32 + (ma : Int) from IntWalk.i64_in _ ⟨by omega, by omega⟩)
  obtain ⟨p, hp⟩ : ∃ p, p = plc d oth 0 := ⟨_, rfl⟩
  obtain ⟨pa, hpa⟩ : ∃ pa, pa = plc d area 0 := ⟨_, rfl⟩
  have hpm : p = 32 + m := by rw [hp, hmm, hz]; rfl
  have hpma : pa = 32 + ma := by rw [hpa, hmma, hz]; rfl
  have HP := Aside0.mk hp
  have HPA := Aside0.mk hpa
  have HPM := Aside0.mk (show 32 + (m : Int) = ((p : Nat) : Int) by omega)
  have HPMA := Aside0.mk (show 32 + (ma : Int) = ((pa : Nat) : Int) by omega)
  obtain ⟨d1, hd1⟩ : ∃ d1, d1 = d.flush := ⟨_, rfl⟩
  have HD1 := Aside0.mk hd1
  have HO1 := Aside0.mk (show d1.Ok by rw [hd1]; exact Dm.ok_flush ho)
  have HQ1 := Aside0.mk (show d1.q = [] by rw [hd1]; rfl)
  have hb1 : d1.b.length = d.b.length := by rw [hd1]; show d.now.length = _; exact Dm.now_length ho
  have HB1 := Aside0.mk hb1
  have HS1 := Aside0.mk (show z = Sz d1 by rw [hd1, Sz_flush ho, hz])
  have HPB := Aside0.mk (And.intro (show p + z ≤ d1.b.length by rw [hb1]; omega) (show pa + z ≤ d1.b.length by rw [hb1]; omega))
  obtain ⟨s, hs⟩ : ∃ s, s = strOfNums (List.replicate z 0) := ⟨_, rfl⟩
  have HSS := Aside0.mk hs
  have HF1 := Aside0.mk (show d1.fits (p : Nat) (List.replicate z (0 : Int)).length by rw [List.length_replicate]; exact fits_mk HPB.out.1 (Nat.le_refl _))
  clear hs
  clear h ho hz hoth hmm hmma hp hpa hpm hpma hd1 hb1
  go_enter Try.func89, Try.ntmps89
  go_wp2_with fail
  go_region_held3 (fun w' => w'.cell? ⟨gr, 0, none⟩ = some (.pointer (some ⟨gx, 0, none⟩)) ∧ w'.cell? ⟨gr, 2, none⟩ = some (.int .i64 area))
    (first
      | exact K.out)
    (first
      | (go_at_call 78; go_must (refine (RefSize (rl_disk HH.out.drew) (by omega) hhi).mono ?_; rw [← HZ.out]; rintro e w1 ⟨rfl, rfl⟩)))
  all_goals
    go_wp2_with (first
      | (go_at_call 39; go_must (refine (RefFlush (fun _ h L hL => RefNow h HO.out (by omega) L hL) (rl_disk HH.out.drew) HO.out (by omega)).mono ?_; rw [← HD1.out]; rintro e w2 ⟨rfl, h⟩; have HF := Aside0.mk (rl_back h); clear h c0 c2 k6; have K7 := Aside0.mk (rl_cells HF.out); have K0 := Aside0.mk (rl_cells HF.out).1; have k6 : w2.cell? ⟨gr, 6, none⟩ = some (.int .i64 1) := (rl_cells HF.out).2.2.2.2.2.2.1; have f6 := rl_frozen HF.out 6)))
    have K6 := Aside0.mk k6
    have F6 := Aside0.mk f6
    clear k6 f6 v1 v2 v3
    go_region_held3 (fun w' => w'.cell? ⟨gr, 0, none⟩ = some (.pointer (some ⟨gx, 0, none⟩)))
      (first
        | exact K0.out
        | exact (rl_cells HI.out).1
        | exact (rl_cells HG.out).1)
      (first
        | (go_at_call 78; go_must (refine (RefSize_eq (rl_disk HF.out.drew) z HS1.out (by rw [HB1.out]; omega) (by rw [HB1.out]; exact hhi)).mono ?_; rintro e w3 ⟨rfl, rfl⟩))
        | (go_at_call 79; go_must (refine (RefZero_eq z s HSS.out _ (by omega)).mono ?_; rintro e w4 ⟨rfl, hb⟩; have HI := Aside0.mk (HF.out.drew.then_ hb : RlH w w4 gr gx _ sp d1 _ _ Ps); clear hb))
        | (go_at_call 38; go_must (refine (RefWrite_int (rl_disk HI.out) HO1.out (by rw [HQ1.out]; simp) _ (p : Nat) (List.replicate z 0) s HPM.out HSS.out HF1.out).mono ?_; rintro e w5 ⟨rfl, va', vt', h⟩; have HG := Aside0.mk (rl_back h); clear h)))
  all_goals
    have k6 : w5.cell? ⟨gr, 6, none⟩ = some (.int .i64 1) := (rl_cells HG.out).2.2.2.2.2.2.1
    have f6 := rl_frozen HG.out 6
    go_wp2_with fail
    go_ret2
    have hy := HG.out.putCell 6 (.int .i64 2)
    refine ⟨rfl, va', vt', ?_⟩
    rw [← HOT.out, ← HP.out, ← HZ.out, ← HD1.out]
    exact hy
set_option maxHeartbeats 8000000 in
set_option maxRecDepth 100000 in
theorem RlStep_2 (h : RlH w W gr gx ⟨gen, area, tail, all, sure, 2⟩ sp d va vt Ps) (ho : d.Ok) (hq : d.q.length ≤ 999000) (ha : area ≤ 1) (pb : List Int) (hsp : sp = strOfNums pb) (hpl : pb.length ≤ Sz d) :
    Calls Try.prog 89 #[.pointer (some ⟨gr, 0, none⟩)] W fun e W' => e = .returned (.tuple #[.int .i64 3, .int .i64 0]) ∧ ∃ va' vt', RlH w W' gr gx ⟨gen, area, tail, all, sure, 3⟩ sp (d.flush.write (plc d (1 - area) 0) pb) va' vt' Ps := by
  have HH := Aside0.mk h
  have HO := Aside0.mk ho
  have hlo := ho.lo
  have hhi := ho.hi
  have K := Aside0.mk (And.intro (rl_cells h).1 (rl_cells h).2.2.1)
  have k6 : W.cell? ⟨gr, 6, none⟩ = some (.int .i64 2) := (rl_cells h).2.2.2.2.2.2.1
  obtain ⟨c0, _, c2, _⟩ := rl_cells h
  obtain ⟨z, hz⟩ : ∃ z, z = Sz d := ⟨_, rfl⟩
  have HZ := Aside0.mk hz
  have hz2 : 2 * z + 32 ≤ d.b.length := by rw [hz]; unfold Sz; omega
  obtain ⟨oth, hoth⟩ : ∃ oth, oth = 1 - area := ⟨_, rfl⟩
  have HOT := Aside0.mk hoth
  have ho1 : oth ≤ 1 := by omega
  have v1 : IntKind.i64.wrap (1 - (area : Int)) = (oth : Int) := by
    rw [hoth, show (1 : Int) - (area : Int) = ((1 - area : Nat) : Int) by omega]
    exact IntWalk.i64_in _ ⟨by omega, by omega⟩
  have hm : oth * z ≤ 1 * z := Nat.mul_le_mul_right z ho1
  have hma : area * z ≤ 1 * z := Nat.mul_le_mul_right z ha
  obtain ⟨m, hmm⟩ : ∃ m, m = oth * z := ⟨_, rfl⟩
  obtain ⟨ma, hmma⟩ : ∃ ma, ma = area * z := ⟨_, rfl⟩
  rw [← hmm] at hm
  rw [← hmma] at hma
  have v2 : IntKind.i64.wrap ((oth : Int) * (z : Int)) = (m : Int) := by
    rw [hmm, ← Int.natCast_mul]
    exact IntWalk.i64_in _ ⟨by omega, by omega⟩
  have v3 : IntKind.i64.wrap (32 + (m : Int)) = 32 + (m : Int) := IntWalk.i64_in _ ⟨by omega, by omega⟩
  have V4 := Aside0.mk (show IntKind.i64.wrap ((area : Int) * (z : Int)) = (ma : Int) by
    rw [hmma, ← Int.natCast_mul]
    exact IntWalk.i64_in _ ⟨by omega, by omega⟩)
  have V5 := Aside0.mk (show IntKind.i64.wrap (32 + (ma : Int)) = 32 + (ma : Int) from IntWalk.i64_in _ ⟨by omega, by omega⟩)
  obtain ⟨p, hp⟩ : ∃ p, p = plc d oth 0 := ⟨_, rfl⟩
  obtain ⟨pa, hpa⟩ : ∃ pa, pa = plc d area 0 := ⟨_, rfl⟩
  have hpm : p = 32 + m := by rw [hp, hmm, hz]; rfl
  have hpma : pa = 32 + ma := by rw [hpa, hmma, hz]; rfl
  have HP := Aside0.mk hp
  have HPA := Aside0.mk hpa
  have HPM := Aside0.mk (show 32 + (m : Int) = ((p : Nat) : Int) by omega)
  have HPMA := Aside0.mk (show 32 + (ma : Int) = ((pa : Nat) : Int) by omega)
  obtain ⟨d1, hd1⟩ : ∃ d1, d1 = d.flush := ⟨_, rfl⟩
  have HD1 := Aside0.mk hd1
  have HO1 := Aside0.mk (show d1.Ok by rw [hd1]; exact Dm.ok_flush ho)
  have HQ1 := Aside0.mk (show d1.q = [] by rw [hd1]; rfl)
  have hb1 : d1.b.length = d.b.length := by rw [hd1]; show d.now.length = _; exact Dm.now_length ho
  have HB1 := Aside0.mk hb1
  have HS1 := Aside0.mk (show z = Sz d1 by rw [hd1, Sz_flush ho, hz])
  have HPB := Aside0.mk (And.intro (show p + z ≤ d1.b.length by rw [hb1]; omega) (show pa + z ≤ d1.b.length by rw [hb1]; omega))
  have HSP := Aside0.mk hsp
  have HF1 := Aside0.mk (show d1.fits (p : Nat) pb.length from fits_mk HPB.out.1 (by rw [hz]; exact hpl))
  clear hsp hpl
  clear h ho hz hoth hmm hmma hp hpa hpm hpma hd1 hb1
  go_enter Try.func89, Try.ntmps89
  go_wp2_with fail
  go_region_held3 (fun w' => w'.cell? ⟨gr, 0, none⟩ = some (.pointer (some ⟨gx, 0, none⟩)) ∧ w'.cell? ⟨gr, 2, none⟩ = some (.int .i64 area))
    (first
      | exact K.out)
    (first
      | (go_at_call 78; go_must (refine (RefSize (rl_disk HH.out.drew) (by omega) hhi).mono ?_; rw [← HZ.out]; rintro e w1 ⟨rfl, rfl⟩)))
  all_goals
    go_wp2_with (first
      | (go_at_call 39; go_must (refine (RefFlush (fun _ h L hL => RefNow h HO.out (by omega) L hL) (rl_disk HH.out.drew) HO.out (by omega)).mono ?_; rw [← HD1.out]; rintro e w2 ⟨rfl, h⟩; have HF := Aside0.mk (rl_back h); clear h c0 c2 k6; have K7 := Aside0.mk (rl_cells HF.out); have K0 := Aside0.mk (rl_cells HF.out).1; have k6 : w2.cell? ⟨gr, 6, none⟩ = some (.int .i64 2) := (rl_cells HF.out).2.2.2.2.2.2.1; have f6 := rl_frozen HF.out 6)))
    have KK := Aside0.mk (And.intro K0.out (rl_cells HF.out).2.2.2.2.2.2.2)
    clear k6 f6 v1 v2 v3
    go_region_held3 (fun w' => w'.cell? ⟨gr, 0, none⟩ = some (.pointer (some ⟨gx, 0, none⟩)) ∧ w'.cell? ⟨gr, 7, none⟩ = some (.string sp))
      (first
        | exact KK.out
        | exact ⟨(rl_cells HG.out).1, (rl_cells HG.out).2.2.2.2.2.2.2⟩)
      (first
        | (go_at_call 38; go_must (refine (RefWrite_int (rl_disk HF.out.drew) HO1.out (by rw [HQ1.out]; simp) _ (p : Nat) pb sp HPM.out HSP.out HF1.out).mono ?_; rintro e w5 ⟨rfl, va', vt', h⟩; have HG := Aside0.mk (rl_back h); clear h)))
  all_goals
    have k6 : w5.cell? ⟨gr, 6, none⟩ = some (.int .i64 2) := (rl_cells HG.out).2.2.2.2.2.2.1
    have f6 := rl_frozen HG.out 6
    go_wp2_with fail
    go_ret2
    have hy := HG.out.putCell 6 (.int .i64 3)
    refine ⟨rfl, va', vt', ?_⟩
    rw [← HOT.out, ← HP.out, ← HD1.out]
    exact hy
set_option maxHeartbeats 8000000 in
set_option maxRecDepth 100000 in
theorem RlStep_3 (h : RlH w W gr gx ⟨gen, area, tail, all, sure, 3⟩ sp d va vt Ps) (ho : d.Ok) (hq : d.q.length ≤ 999000) (ha : area ≤ 1) (hg : 0 ≤ gen ∧ gen < 4294967295) :
    Calls Try.prog 89 #[.pointer (some ⟨gr, 0, none⟩)] W fun e W' => e = .returned (.tuple #[.int .i64 4, .int .i64 0]) ∧ ∃ va' vt', RlH w W' gr gx ⟨gen, area, tail, all, sure, 4⟩ sp (d.flush.write ((gen + 1) % 2 * 16) (slotB (gen + 1) ((1 - area : Nat) : Int))) va' vt' Ps := by
  have HH := Aside0.mk h
  have HO := Aside0.mk ho
  have hlo := ho.lo
  have hhi := ho.hi
  have K := Aside0.mk (And.intro (rl_cells h).1 (rl_cells h).2.2.1)
  have k6 : W.cell? ⟨gr, 6, none⟩ = some (.int .i64 3) := (rl_cells h).2.2.2.2.2.2.1
  obtain ⟨c0, _, c2, _⟩ := rl_cells h
  obtain ⟨z, hz⟩ : ∃ z, z = Sz d := ⟨_, rfl⟩
  have HZ := Aside0.mk hz
  have hz2 : 2 * z + 32 ≤ d.b.length := by rw [hz]; unfold Sz; omega
  obtain ⟨oth, hoth⟩ : ∃ oth, oth = 1 - area := ⟨_, rfl⟩
  have HOT := Aside0.mk hoth
  have ho1 : oth ≤ 1 := by omega
  have v1 : IntKind.i64.wrap (1 - (area : Int)) = (oth : Int) := by
    rw [hoth, show (1 : Int) - (area : Int) = ((1 - area : Nat) : Int) by omega]
    exact IntWalk.i64_in _ ⟨by omega, by omega⟩
  have hm : oth * z ≤ 1 * z := Nat.mul_le_mul_right z ho1
  have hma : area * z ≤ 1 * z := Nat.mul_le_mul_right z ha
  obtain ⟨m, hmm⟩ : ∃ m, m = oth * z := ⟨_, rfl⟩
  obtain ⟨ma, hmma⟩ : ∃ ma, ma = area * z := ⟨_, rfl⟩
  rw [← hmm] at hm
  rw [← hmma] at hma
  have v2 : IntKind.i64.wrap ((oth : Int) * (z : Int)) = (m : Int) := by
    rw [hmm, ← Int.natCast_mul]
    exact IntWalk.i64_in _ ⟨by omega, by omega⟩
  have v3 : IntKind.i64.wrap (32 + (m : Int)) = 32 + (m : Int) := IntWalk.i64_in _ ⟨by omega, by omega⟩
  have V4 := Aside0.mk (show IntKind.i64.wrap ((area : Int) * (z : Int)) = (ma : Int) by
    rw [hmma, ← Int.natCast_mul]
    exact IntWalk.i64_in _ ⟨by omega, by omega⟩)
  have V5 := Aside0.mk (show IntKind.i64.wrap (32 + (ma : Int)) = 32 + (ma : Int) from IntWalk.i64_in _ ⟨by omega, by omega⟩)
  obtain ⟨p, hp⟩ : ∃ p, p = plc d oth 0 := ⟨_, rfl⟩
  obtain ⟨pa, hpa⟩ : ∃ pa, pa = plc d area 0 := ⟨_, rfl⟩
  have hpm : p = 32 + m := by rw [hp, hmm, hz]; rfl
  have hpma : pa = 32 + ma := by rw [hpa, hmma, hz]; rfl
  have HP := Aside0.mk hp
  have HPA := Aside0.mk hpa
  have HPM := Aside0.mk (show 32 + (m : Int) = ((p : Nat) : Int) by omega)
  have HPMA := Aside0.mk (show 32 + (ma : Int) = ((pa : Nat) : Int) by omega)
  obtain ⟨d1, hd1⟩ : ∃ d1, d1 = d.flush := ⟨_, rfl⟩
  have HD1 := Aside0.mk hd1
  have HO1 := Aside0.mk (show d1.Ok by rw [hd1]; exact Dm.ok_flush ho)
  have HQ1 := Aside0.mk (show d1.q = [] by rw [hd1]; rfl)
  have hb1 : d1.b.length = d.b.length := by rw [hd1]; show d.now.length = _; exact Dm.now_length ho
  have HB1 := Aside0.mk hb1
  have HS1 := Aside0.mk (show z = Sz d1 by rw [hd1, Sz_flush ho, hz])
  have HPB := Aside0.mk (And.intro (show p + z ≤ d1.b.length by rw [hb1]; omega) (show pa + z ≤ d1.b.length by rw [hb1]; omega))
  have v6 : IntKind.u64.wrap (gen + 1) = gen + 1 := by
    simp [IntKind.wrap, IntKind.signed, IntKind.bits]
    omega
  clear h ho hz hoth hmm hmma hp hpa hpm hpma hd1 hb1
  go_enter Try.func89, Try.ntmps89
  go_wp2_with fail
  go_region_held3 (fun w' => w'.cell? ⟨gr, 0, none⟩ = some (.pointer (some ⟨gx, 0, none⟩)) ∧ w'.cell? ⟨gr, 2, none⟩ = some (.int .i64 area))
    (first
      | exact K.out)
    (first
      | (go_at_call 78; go_must (refine (RefSize (rl_disk HH.out.drew) (by omega) hhi).mono ?_; rw [← HZ.out]; rintro e w1 ⟨rfl, rfl⟩)))
  all_goals
    go_wp2_with (first
      | (go_at_call 39; go_must (refine (RefFlush (fun _ h L hL => RefNow h HO.out (by omega) L hL) (rl_disk HH.out.drew) HO.out (by omega)).mono ?_; rw [← HD1.out]; rintro e w2 ⟨rfl, h⟩; have HF := Aside0.mk (rl_back h); clear h c0 c2 k6; have K7 := Aside0.mk (rl_cells HF.out); have K0 := Aside0.mk (rl_cells HF.out).1; have k6 : w2.cell? ⟨gr, 6, none⟩ = some (.int .i64 3) := (rl_cells HF.out).2.2.2.2.2.2.1; have f6 := rl_frozen HF.out 6)))
    have KK := Aside0.mk (show w2.cell? ⟨gr, 0, none⟩ = some (.pointer (some ⟨gx, 0, none⟩)) ∧ w2.cell? ⟨gr, 1, none⟩ = some (.int .u64 gen) ∧ w2.cell? ⟨gr, 2, none⟩ = some (.int .i64 area) from ⟨(rl_cells HF.out).1, (rl_cells HF.out).2.1, (rl_cells HF.out).2.2.1⟩)
    clear k6 f6 v2 v3
    go_region_held3 (fun w' => w'.cell? ⟨gr, 0, none⟩ = some (.pointer (some ⟨gx, 0, none⟩)) ∧ w'.cell? ⟨gr, 1, none⟩ = some (.int .u64 gen) ∧ w'.cell? ⟨gr, 2, none⟩ = some (.int .i64 area))
      (first
        | exact KK.out
        | exact ⟨(rl_cells HG.out).1, (rl_cells HG.out).2.1, (rl_cells HG.out).2.2.1⟩)
      (first
        | (go_at_call 84; go_must (refine (RefTurn (rl_disk HF.out.drew) HO1.out (by rw [HQ1.out]; simp) (gen + 1) oth ⟨by omega, by omega⟩ ho1).mono ?_; rintro e w5 ⟨rfl, va', vt', h⟩; have HG := Aside0.mk (rl_back h); clear h)))
  all_goals
    have k6 : w5.cell? ⟨gr, 6, none⟩ = some (.int .i64 3) := (rl_cells HG.out).2.2.2.2.2.2.1
    have f6 := rl_frozen HG.out 6
    go_wp2_with fail
    go_ret2
    have hy := HG.out.putCell 6 (.int .i64 4)
    refine ⟨rfl, va', vt', ?_⟩
    rw [← HOT.out, ← HD1.out]
    exact hy
set_option maxHeartbeats 8000000 in
set_option maxRecDepth 100000 in
theorem RlStep_4 (h : RlH w W gr gx ⟨gen, area, tail, all, sure, 4⟩ sp d va vt Ps) (ho : d.Ok) (hq : d.q.length ≤ 999000) (ha : area ≤ 1) (hg : 0 ≤ gen ∧ gen < 4294967295) (pb : List Int) (hsp : sp = strOfNums pb) :
    Calls Try.prog 89 #[.pointer (some ⟨gr, 0, none⟩)] W fun e W' => e = .returned (.tuple #[.int .i64 5, .int .i64 0]) ∧ ∃ va' vt', RlH w W' gr gx ⟨gen + 1, 1 - area, pb.length, all, sure, 5⟩ ⟨#[]⟩ (d.flush.write (plc d area 0) (List.replicate (Sz d) 0)) va' vt' Ps := by
  have HH := Aside0.mk h
  have HO := Aside0.mk ho
  have hlo := ho.lo
  have hhi := ho.hi
  have K := Aside0.mk (And.intro (rl_cells h).1 (rl_cells h).2.2.1)
  have k6 : W.cell? ⟨gr, 6, none⟩ = some (.int .i64 4) := (rl_cells h).2.2.2.2.2.2.1
  obtain ⟨c0, _, c2, _⟩ := rl_cells h
  obtain ⟨z, hz⟩ : ∃ z, z = Sz d := ⟨_, rfl⟩
  have HZ := Aside0.mk hz
  have hz2 : 2 * z + 32 ≤ d.b.length := by rw [hz]; unfold Sz; omega
  obtain ⟨oth, hoth⟩ : ∃ oth, oth = 1 - area := ⟨_, rfl⟩
  have HOT := Aside0.mk hoth
  have ho1 : oth ≤ 1 := by omega
  have v1 : IntKind.i64.wrap (1 - (area : Int)) = (oth : Int) := by
    rw [hoth, show (1 : Int) - (area : Int) = ((1 - area : Nat) : Int) by omega]
    exact IntWalk.i64_in _ ⟨by omega, by omega⟩
  have hm : oth * z ≤ 1 * z := Nat.mul_le_mul_right z ho1
  have hma : area * z ≤ 1 * z := Nat.mul_le_mul_right z ha
  obtain ⟨m, hmm⟩ : ∃ m, m = oth * z := ⟨_, rfl⟩
  obtain ⟨ma, hmma⟩ : ∃ ma, ma = area * z := ⟨_, rfl⟩
  rw [← hmm] at hm
  rw [← hmma] at hma
  have v2 : IntKind.i64.wrap ((oth : Int) * (z : Int)) = (m : Int) := by
    rw [hmm, ← Int.natCast_mul]
    exact IntWalk.i64_in _ ⟨by omega, by omega⟩
  have v3 : IntKind.i64.wrap (32 + (m : Int)) = 32 + (m : Int) := IntWalk.i64_in _ ⟨by omega, by omega⟩
  have V4 := Aside0.mk (show IntKind.i64.wrap ((area : Int) * (z : Int)) = (ma : Int) by
    rw [hmma, ← Int.natCast_mul]
    exact IntWalk.i64_in _ ⟨by omega, by omega⟩)
  have V5 := Aside0.mk (show IntKind.i64.wrap (32 + (ma : Int)) = 32 + (ma : Int) from IntWalk.i64_in _ ⟨by omega, by omega⟩)
  obtain ⟨p, hp⟩ : ∃ p, p = plc d oth 0 := ⟨_, rfl⟩
  obtain ⟨pa, hpa⟩ : ∃ pa, pa = plc d area 0 := ⟨_, rfl⟩
  have hpm : p = 32 + m := by rw [hp, hmm, hz]; rfl
  have hpma : pa = 32 + ma := by rw [hpa, hmma, hz]; rfl
  have HP := Aside0.mk hp
  have HPA := Aside0.mk hpa
  have HPM := Aside0.mk (show 32 + (m : Int) = ((p : Nat) : Int) by omega)
  have HPMA := Aside0.mk (show 32 + (ma : Int) = ((pa : Nat) : Int) by omega)
  obtain ⟨d1, hd1⟩ : ∃ d1, d1 = d.flush := ⟨_, rfl⟩
  have HD1 := Aside0.mk hd1
  have HO1 := Aside0.mk (show d1.Ok by rw [hd1]; exact Dm.ok_flush ho)
  have HQ1 := Aside0.mk (show d1.q = [] by rw [hd1]; rfl)
  have hb1 : d1.b.length = d.b.length := by rw [hd1]; show d.now.length = _; exact Dm.now_length ho
  have HB1 := Aside0.mk hb1
  have HS1 := Aside0.mk (show z = Sz d1 by rw [hd1, Sz_flush ho, hz])
  have HPB := Aside0.mk (And.intro (show p + z ≤ d1.b.length by rw [hb1]; omega) (show pa + z ≤ d1.b.length by rw [hb1]; omega))
  have V6 := Aside0.mk (show IntKind.u64.wrap (gen + 1) = gen + 1 by
    simp [IntKind.wrap, IntKind.signed, IntKind.bits]
    omega)
  obtain ⟨pl, hpl⟩ : ∃ pl, pl = pb.length := ⟨_, rfl⟩
  have HPL := Aside0.mk hpl
  have hsz : sp.size = pl := by rw [hsp, strOfNums_size, hpl]
  have HSZ := Aside0.mk hsz
  obtain ⟨s, hs⟩ : ∃ s, s = strOfNums (List.replicate z 0) := ⟨_, rfl⟩
  have HSS := Aside0.mk hs
  have HF1 := Aside0.mk (show d1.fits (pa : Nat) (List.replicate z (0 : Int)).length by rw [List.length_replicate]; exact fits_mk HPB.out.2 (Nat.le_refl _))
  have V1 := Aside0.mk v1
  clear hs hsp hpl hsz
  clear h ho hz hoth hmm hmma hp hpa hpm hpma hd1 hb1
  go_enter Try.func89, Try.ntmps89
  go_wp2_with fail
  go_region_held3 (fun w' => w'.cell? ⟨gr, 0, none⟩ = some (.pointer (some ⟨gx, 0, none⟩)) ∧ w'.cell? ⟨gr, 2, none⟩ = some (.int .i64 area))
    (first
      | exact K.out)
    (first
      | (go_at_call 78; go_must (refine (RefSize (rl_disk HH.out.drew) (by omega) hhi).mono ?_; rw [← HZ.out]; rintro e w1 ⟨rfl, rfl⟩)))
  all_goals
    go_wp2_with (first
      | (go_at_call 39; go_must (refine (RefFlush (fun _ h L hL => RefNow h HO.out (by omega) L hL) (rl_disk HH.out.drew) HO.out (by omega)).mono ?_; rw [← HD1.out]; rintro e w2 ⟨rfl, h⟩; have HF := Aside0.mk (rl_back h); clear h c0 c2 k6; have K7 := Aside0.mk (rl_cells HF.out); have K0 := Aside0.mk (rl_cells HF.out).1; have k6 : w2.cell? ⟨gr, 6, none⟩ = some (.int .i64 4) := (rl_cells HF.out).2.2.2.2.2.2.1; have f6 := rl_frozen HF.out 6)))
    have KK := Aside0.mk (show w2.cell? ⟨gr, 0, none⟩ = some (.pointer (some ⟨gx, 0, none⟩)) ∧ w2.cell? ⟨gr, 2, none⟩ = some (.int .i64 area) from ⟨(rl_cells HF.out).1, (rl_cells HF.out).2.2.1⟩)
    have v4 := V4.out
    have v5 := V5.out
    clear k6 f6 v1 v2 v3
    go_region_held3 (fun w' => w'.cell? ⟨gr, 0, none⟩ = some (.pointer (some ⟨gx, 0, none⟩)) ∧ w'.cell? ⟨gr, 2, none⟩ = some (.int .i64 area))
      (first
        | exact KK.out
        | exact ⟨(rl_cells HI.out).1, (rl_cells HI.out).2.2.1⟩
        | exact ⟨(rl_cells HG.out).1, (rl_cells HG.out).2.2.1⟩)
      (first
        | (go_at_call 78; go_must (refine (RefSize_eq (rl_disk HF.out.drew) z HS1.out (by rw [HB1.out]; omega) (by rw [HB1.out]; exact hhi)).mono ?_; rintro e w3 ⟨rfl, rfl⟩))
        | (go_at_call 79; go_must (refine (RefZero_eq z s HSS.out _ (by omega)).mono ?_; rintro e w4 ⟨rfl, hb⟩; have HI := Aside0.mk (HF.out.drew.then_ hb : RlH w w4 gr gx _ sp d1 _ _ Ps); clear hb))
        | (go_at_call 38; go_must (refine (RefWrite_int (rl_disk HI.out) HO1.out (by rw [HQ1.out]; simp) _ (pa : Nat) (List.replicate z 0) s HPMA.out HSS.out HF1.out).mono ?_; rintro e w5 ⟨rfl, va', vt', h⟩; have HG := Aside0.mk (rl_back h); clear h)))
  all_goals
    obtain ⟨_, c1, c2, _, _, _, _, c7⟩ := rl_cells HG.out
    have f1 := rl_frozen HG.out 1
    have f2 := rl_frozen HG.out 2
    have f3 := rl_frozen HG.out 3
    have f7 := rl_frozen HG.out 7
    have K6 := Aside0.mk (show w5.cell? ⟨gr, 6, none⟩ = some (.int .i64 4) from (rl_cells HG.out).2.2.2.2.2.2.1)
    have F6 := Aside0.mk (rl_frozen HG.out 6)
    have hsz := HSZ.out
    have v1 := V1.out
    have v6 := V6.out
    clear v4 v5 hq ha hg ho1 hlo hhi hz2 hm hma
    go_wp2_with fail
    go_region
  all_goals
    have k6 := K6.out
    have f6 := F6.out
    go_wp2_with fail
    go_ret2
    have hy := ((((HG.out.putCell 1 (.int .u64 (gen + 1))).putCell 2 (.int .i64 (oth : Int))).putCell 3 (.int .i64 (pl : Int))).putCell 7 (.string ⟨#[]⟩)).putCell 6 (.int .i64 5)
    refine ⟨rfl, va', vt', ?_⟩
    rw [← HOT.out, ← HPL.out, ← HPA.out, ← HZ.out, ← HD1.out]
    exact hy.drew
set_option maxHeartbeats 8000000 in
set_option maxRecDepth 100000 in
theorem RlStep_5 (h : RlH w W gr gx ⟨gen, area, tail, all, sure, 5⟩ sp d va vt Ps) (ho : d.Ok) (hq : d.q.length ≤ 999000) (ha : area ≤ 1) :
    Calls Try.prog 89 #[.pointer (some ⟨gr, 0, none⟩)] W fun e W' => e = .returned (.tuple #[.int .i64 0, .int .i64 0]) ∧ ∃ va' vt', RlH w W' gr gx ⟨gen, area, tail, all, sure, 0⟩ sp (d.flush) va' vt' Ps := by
  have HH := Aside0.mk h
  have HO := Aside0.mk ho
  have hlo := ho.lo
  have hhi := ho.hi
  have K := Aside0.mk (And.intro (rl_cells h).1 (rl_cells h).2.2.1)
  have k6 : W.cell? ⟨gr, 6, none⟩ = some (.int .i64 5) := (rl_cells h).2.2.2.2.2.2.1
  obtain ⟨c0, _, c2, _⟩ := rl_cells h
  obtain ⟨z, hz⟩ : ∃ z, z = Sz d := ⟨_, rfl⟩
  have HZ := Aside0.mk hz
  have hz2 : 2 * z + 32 ≤ d.b.length := by rw [hz]; unfold Sz; omega
  obtain ⟨oth, hoth⟩ : ∃ oth, oth = 1 - area := ⟨_, rfl⟩
  have HOT := Aside0.mk hoth
  have ho1 : oth ≤ 1 := by omega
  have v1 : IntKind.i64.wrap (1 - (area : Int)) = (oth : Int) := by
    rw [hoth, show (1 : Int) - (area : Int) = ((1 - area : Nat) : Int) by omega]
    exact IntWalk.i64_in _ ⟨by omega, by omega⟩
  have hm : oth * z ≤ 1 * z := Nat.mul_le_mul_right z ho1
  have hma : area * z ≤ 1 * z := Nat.mul_le_mul_right z ha
  obtain ⟨m, hmm⟩ : ∃ m, m = oth * z := ⟨_, rfl⟩
  obtain ⟨ma, hmma⟩ : ∃ ma, ma = area * z := ⟨_, rfl⟩
  rw [← hmm] at hm
  rw [← hmma] at hma
  have v2 : IntKind.i64.wrap ((oth : Int) * (z : Int)) = (m : Int) := by
    rw [hmm, ← Int.natCast_mul]
    exact IntWalk.i64_in _ ⟨by omega, by omega⟩
  have v3 : IntKind.i64.wrap (32 + (m : Int)) = 32 + (m : Int) := IntWalk.i64_in _ ⟨by omega, by omega⟩
  have V4 := Aside0.mk (show IntKind.i64.wrap ((area : Int) * (z : Int)) = (ma : Int) by
    rw [hmma, ← Int.natCast_mul]
    exact IntWalk.i64_in _ ⟨by omega, by omega⟩)
  have V5 := Aside0.mk (show IntKind.i64.wrap (32 + (ma : Int)) = 32 + (ma : Int) from IntWalk.i64_in _ ⟨by omega, by omega⟩)
  obtain ⟨p, hp⟩ : ∃ p, p = plc d oth 0 := ⟨_, rfl⟩
  obtain ⟨pa, hpa⟩ : ∃ pa, pa = plc d area 0 := ⟨_, rfl⟩
  have hpm : p = 32 + m := by rw [hp, hmm, hz]; rfl
  have hpma : pa = 32 + ma := by rw [hpa, hmma, hz]; rfl
  have HP := Aside0.mk hp
  have HPA := Aside0.mk hpa
  have HPM := Aside0.mk (show 32 + (m : Int) = ((p : Nat) : Int) by omega)
  have HPMA := Aside0.mk (show 32 + (ma : Int) = ((pa : Nat) : Int) by omega)
  obtain ⟨d1, hd1⟩ : ∃ d1, d1 = d.flush := ⟨_, rfl⟩
  have HD1 := Aside0.mk hd1
  have HO1 := Aside0.mk (show d1.Ok by rw [hd1]; exact Dm.ok_flush ho)
  have HQ1 := Aside0.mk (show d1.q = [] by rw [hd1]; rfl)
  have hb1 : d1.b.length = d.b.length := by rw [hd1]; show d.now.length = _; exact Dm.now_length ho
  have HB1 := Aside0.mk hb1
  have HS1 := Aside0.mk (show z = Sz d1 by rw [hd1, Sz_flush ho, hz])
  have HPB := Aside0.mk (And.intro (show p + z ≤ d1.b.length by rw [hb1]; omega) (show pa + z ≤ d1.b.length by rw [hb1]; omega))
  clear h ho hz hoth hmm hmma hp hpa hpm hpma hd1 hb1
  go_enter Try.func89, Try.ntmps89
  go_wp2_with fail
  go_region_held3 (fun w' => w'.cell? ⟨gr, 0, none⟩ = some (.pointer (some ⟨gx, 0, none⟩)) ∧ w'.cell? ⟨gr, 2, none⟩ = some (.int .i64 area))
    (first
      | exact K.out)
    (first
      | (go_at_call 78; go_must (refine (RefSize (rl_disk HH.out.drew) (by omega) hhi).mono ?_; rw [← HZ.out]; rintro e w1 ⟨rfl, rfl⟩)))
  all_goals
    go_wp2_with (first
      | (go_at_call 39; go_must (refine (RefFlush (fun _ h L hL => RefNow h HO.out (by omega) L hL) (rl_disk HH.out.drew) HO.out (by omega)).mono ?_; rw [← HD1.out]; rintro e w2 ⟨rfl, h⟩; have HF := Aside0.mk (rl_back h); clear h c0 c2 k6; have K7 := Aside0.mk (rl_cells HF.out); have K0 := Aside0.mk (rl_cells HF.out).1; have k6 : w2.cell? ⟨gr, 6, none⟩ = some (.int .i64 5) := (rl_cells HF.out).2.2.2.2.2.2.1; have f6 := rl_frozen HF.out 6)))
    go_ret2
    have hy := HF.out.putCell 6 (.int .i64 0)
    refine ⟨rfl, .slice none 0 0, .slice none 0 0, ?_⟩
    rw [← HD1.out]
    exact hy
theorem RlStep_any {x : Lg} (h : RlH w W gr gx x sp d va vt Ps) (ho : d.Ok) (hq : d.q.length ≤ 999000) (ha : x.area ≤ 1) (hst : x.stage ≤ 5) (hg : 0 ≤ x.gen ∧ x.gen < 4294967295) (pb : List Int) (hsp : 1 ≤ x.stage → x.stage ≤ 4 → sp = strOfNums pb) (hpl : x.stage = 2 → pb.length ≤ Sz d) :
    Calls Try.prog 89 #[.pointer (some ⟨gr, 0, none⟩)] W fun e W' => e = .returned (.tuple #[.int .i64 (stepV x).1, .int .i64 (stepV x).2]) ∧ ∃ va' vt' sp', (1 ≤ (stepL x pb).stage → (stepL x pb).stage ≤ 4 → sp' = strOfNums pb) ∧ RlH w W' gr gx (stepL x pb) sp' (stepD x d pb) va' vt' Ps := by
  obtain ⟨gen, area, tail, all, sure, stage⟩ := x
  simp only at ha hst hg hsp hpl
  match stage, hst with
  | 0, _ =>
    refine (RlStep_0 h ho hq ha).mono ?_
    rintro e W' ⟨rfl, h⟩
    exact ⟨rfl, va, vt, sp, fun k => absurd k (by simp [stepL]), h⟩
  | 1, _ =>
    refine (RlStep_1 h ho hq ha).mono ?_
    rintro e W' ⟨rfl, va', vt', h⟩
    exact ⟨rfl, va', vt', sp, fun _ _ => hsp (by omega) (by omega), h⟩
  | 2, _ =>
    refine (RlStep_2 h ho hq ha pb (hsp (by omega) (by omega)) (hpl rfl)).mono ?_
    rintro e W' ⟨rfl, va', vt', h⟩
    exact ⟨rfl, va', vt', sp, fun _ _ => hsp (by omega) (by omega), h⟩
  | 3, _ =>
    refine (RlStep_3 h ho hq ha hg).mono ?_
    rintro e W' ⟨rfl, va', vt', h⟩
    exact ⟨rfl, va', vt', sp, fun _ _ => hsp (by omega) (by omega), h⟩
  | 4, _ =>
    refine (RlStep_4 h ho hq ha hg pb (hsp (by omega) (by omega))).mono ?_
    rintro e W' ⟨rfl, va', vt', h⟩
    exact ⟨rfl, va', vt', ⟨#[]⟩, fun _ k => absurd k (by simp [stepL]), h⟩
  | 5, _ =>
    refine (RlStep_5 h ho hq ha).mono ?_
    rintro e W' ⟨rfl, va', vt', h⟩
    have e1 : stepL ⟨gen, area, tail, all, sure, 5⟩ pb = ⟨gen, area, tail, all, sure, 0⟩ := by simp [stepL]
    have e2 : stepV ⟨gen, area, tail, all, sure, 5⟩ = (0, 0) := by simp [stepV]
    rw [e1, e2]
    exact ⟨rfl, va', vt', sp, fun k => absurd k (by simp), h⟩
end
end Go.Proofs.Ytmbemlpmfklddaa.Own
