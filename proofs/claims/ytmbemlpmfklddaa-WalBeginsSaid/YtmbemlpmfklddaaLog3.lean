/- Step. Step: the parts, the turn, the wipe. Step: the wipe. -/
import Derived.Test.YtmbemlpmfklddaaLog2
namespace Go.Proofs.Ytmbemlpmfklddaa.Own
open Go.RowKit Go.Proofs.YtmbemlpmfklddaaW.PrintWords Go.Proofs.YtmbemlpmfklddaaW.PrintLast Go.Proofs.YtmbemlpmfklddaaW.PrintMore
section
variable {w W : World} {Ps : List Thing} {g gl : Nat} {d : Dm} {vp : Value} {gen : Int} {area tail all sure : Nat}
theorem lg_stage {x : Lg} (h : Here w W (LogT gl g x vp :: Ps)) {s : Nat} (hs : x.stage = s) : W.cell? ⟨gl, 6, none⟩ = some (.int .i64 (s : Int)) := by
  subst hs
  exact (lg_cells h).2.2.2.2.2.2.1
theorem Sz_write (d : Dm) (p : Int) (l : List Int) : Sz (d.write p l) = Sz d := rfl
theorem now_len {d : Dm} (h : d.Ok) : d.now.length = d.b.length := Dm.now_length h
theorem Sz_flush {d : Dm} (h : d.Ok) : Sz d.flush = Sz d := by
  unfold Sz
  rw [show d.flush.b = d.now from rfl, now_len h]
theorem plc_flush {d : Dm} (h : d.Ok) (a f : Nat) : plc d.flush a f = plc d a f := by
  unfold plc
  rw [Sz_flush h]
set_option maxHeartbeats 2000000 in
set_option maxRecDepth 100000 in
theorem Step_1 (h : Here w W (LogT gl g ⟨gen, area, tail, all, sure, 1⟩ vp :: DiskT g d :: Ps)) (hq : d.q.length ≤ 1000000) (ha : area ≤ 1) :
    Calls Try.prog 49 #[.pointer (some ⟨gl, 0, none⟩)] W fun e W' => e = .returned (.tuple #[.int .i64 2, .int .i64 0]) ∧ Here w W' (LogT gl g ⟨gen, area, tail, all, sure, 2⟩ vp :: DiskT g (d.flush.write (plc d (1 - area) 0) (List.replicate (Sz d) 0)) :: Ps) := by
  have HH := Aside0.mk h
  have hk := h.swap.diskOk
  have HK := Aside0.mk hk
  obtain ⟨k0, k1, k2, k3, k4, k5, _, k7⟩ := lg_cells h
  have k6 : W.cell? ⟨gl, 6, none⟩ = some (.int .i64 1) := lg_stage h rfl
  obtain ⟨oth, hoth⟩ : ∃ oth, oth = 1 - area := ⟨_, rfl⟩
  have HO := Aside0.mk hoth
  have u1 : IntKind.i64.wrap (1 - (area : Int)) = (oth : Int) := by
    rw [hoth, show (1 : Int) - (area : Int) = ((1 - area : Nat) : Int) by omega]
    exact IntWalk.i64_in _ ⟨by omega, by omega⟩
  have ho : oth ≤ 1 := by omega
  obtain ⟨d1, hd1⟩ : ∃ d1, d1 = d.flush := ⟨_, rfl⟩
  have HD1 := Aside0.mk hd1
  have HQ1 := Aside0.mk (show d1.q = [] by rw [hd1]; rfl)
  have HP1 := Aside0.mk (show plc d1 oth 0 = plc d oth 0 by rw [hd1, plc_flush hk])
  have HS1 := Aside0.mk (show Sz d1 = Sz d by rw [hd1, Sz_flush hk])
  clear h hk hoth hd1
  go_enter Try.func49, Try.ntmps49
  go_wp2_with (first
    | (go_at_call 82; go_must (refine (made_here HH.out).mono ?_; rintro e w1 ⟨rfl, rfl⟩))
    | (go_at_call 23; go_must (refine (Flush_here HH.out.swap hq).mono ?_; rw [← HD1.out]; rintro e w2 ⟨rfl, h⟩; have HF := Aside0.mk h.swap; clear h k0 k1 k2 k3 k4 k5 k6 k7; obtain ⟨k0, k1, k2, k3, k4, k5, _, k7⟩ := lg_cells HF.out; have k6 : w2.cell? ⟨gl, 6, none⟩ = some (.int .i64 1) := lg_stage HF.out rfl; have f6 := lg_frozen HF.out 6))
    | (go_at_call 76; go_must (refine (noughts_here (f := 0) HF.out.swap (by rw [HQ1.out]; simp) oth ho (Nat.zero_le _)).mono ?_; rintro e w3 ⟨rfl, h⟩; have HG := Aside0.mk h.swap; clear h k0 k1 k2 k3 k4 k5 k6 k7 f6; have k6 : w3.cell? ⟨gl, 6, none⟩ = some (.int .i64 1) := lg_stage HG.out rfl; have f6 := lg_frozen HG.out 6)))
  go_ret2
  refine ⟨rfl, ?_⟩
  have hy := HG.out.putCell 6 (.int .i64 2)
  rw [HP1.out, HS1.out, HD1.out, HO.out, Nat.sub_zero] at hy
  exact hy
set_option maxHeartbeats 2000000 in
set_option maxRecDepth 100000 in
theorem Step_5 (h : Here w W (LogT gl g ⟨gen, area, tail, all, sure, 5⟩ vp :: DiskT g d :: Ps)) (hq : d.q.length ≤ 1000000) (ha : area ≤ 1) :
    Calls Try.prog 49 #[.pointer (some ⟨gl, 0, none⟩)] W fun e W' => e = .returned (.tuple #[.int .i64 0, .int .i64 0]) ∧ Here w W' (LogT gl g ⟨gen, area, tail, all, sure, 0⟩ vp :: DiskT g d.flush :: Ps) := by
  have HH := Aside0.mk h
  have hk := h.swap.diskOk
  have HK := Aside0.mk hk
  obtain ⟨k0, k1, k2, k3, k4, k5, _, k7⟩ := lg_cells h
  have k6 : W.cell? ⟨gl, 6, none⟩ = some (.int .i64 5) := lg_stage h rfl
  obtain ⟨oth, hoth⟩ : ∃ oth, oth = 1 - area := ⟨_, rfl⟩
  have HO := Aside0.mk hoth
  have u1 : IntKind.i64.wrap (1 - (area : Int)) = (oth : Int) := by
    rw [hoth, show (1 : Int) - (area : Int) = ((1 - area : Nat) : Int) by omega]
    exact IntWalk.i64_in _ ⟨by omega, by omega⟩
  have ho : oth ≤ 1 := by omega
  obtain ⟨d1, hd1⟩ : ∃ d1, d1 = d.flush := ⟨_, rfl⟩
  have HD1 := Aside0.mk hd1
  have HQ1 := Aside0.mk (show d1.q = [] by rw [hd1]; rfl)
  clear h hk hoth hd1
  go_enter Try.func49, Try.ntmps49
  go_wp2_with (first
    | (go_at_call 82; go_must (refine (made_here HH.out).mono ?_; rintro e w1 ⟨rfl, rfl⟩))
    | (go_at_call 23; go_must (refine (Flush_here HH.out.swap hq).mono ?_; rw [← HD1.out]; rintro e w2 ⟨rfl, h⟩; have HF := Aside0.mk h.swap; clear h k0 k1 k2 k3 k4 k5 k6 k7; obtain ⟨k0, k1, k2, k3, k4, k5, _, k7⟩ := lg_cells HF.out; have k6 : w2.cell? ⟨gl, 6, none⟩ = some (.int .i64 5) := lg_stage HF.out rfl; have f6 := lg_frozen HF.out 6)))
  go_ret2
  refine ⟨rfl, ?_⟩
  have hy := HF.out.putCell 6 (.int .i64 0)
  rw [HD1.out] at hy
  exact hy
end
end Go.Proofs.Ytmbemlpmfklddaa.Own
namespace Go.Proofs.Ytmbemlpmfklddaa.Own
open Go.RowKit Go.Proofs.YtmbemlpmfklddaaW.PrintWords Go.Proofs.YtmbemlpmfklddaaW.PrintLast Go.Proofs.YtmbemlpmfklddaaW.PrintMore
section
variable {w W : World} {Ps : List Thing} {g gl : Nat} {d : Dm} {vp : Value} {gen : Int} {area tail all sure : Nat} {Ap : Option Addr} {cp : Nat} {parts : List Int}
theorem lg_017 {x : Lg} (h : Here w W (LogT gl g x vp :: Ps)) : W.cell? ⟨gl, 0, none⟩ = some (.pointer (some ⟨g, 0, none⟩)) ∧ W.cell? ⟨gl, 1, none⟩ = some (.int .u32 x.gen) ∧ W.cell? ⟨gl, 7, none⟩ = some vp ∧ W.cell? ⟨gl, 2, none⟩ = some (.int .i64 x.area) :=
  ⟨(lg_cells h).1, (lg_cells h).2.1, (lg_cells h).2.2.2.2.2.2.2, (lg_cells h).2.2.1⟩
set_option maxHeartbeats 2000000 in
set_option maxRecDepth 100000 in
theorem Step_3 (h : Here w W (LogT gl g ⟨gen, area, tail, all, sure, 3⟩ vp :: DiskT g d :: Ps)) (hq : d.q.length ≤ 1000000) (ha : area ≤ 1) (hg : 0 ≤ gen ∧ gen < 4294967295) :
    Calls Try.prog 49 #[.pointer (some ⟨gl, 0, none⟩)] W fun e W' => e = .returned (.tuple #[.int .i64 4, .int .i64 0]) ∧ Here w W' (LogT gl g ⟨gen, area, tail, all, sure, 4⟩ vp :: DiskT g (d.flush.write ((gen + 1) % 2 * 16) (slotB (gen + 1) ((1 - area : Nat) : Int))) :: Ps) := by
  have HH := Aside0.mk h
  have hk := h.swap.diskOk
  have HK := Aside0.mk hk
  obtain ⟨k0, k1, k2, k3, k4, k5, _, k7⟩ := lg_cells h
  have k6 : W.cell? ⟨gl, 6, none⟩ = some (.int .i64 3) := lg_stage h rfl
  obtain ⟨oth, hoth⟩ : ∃ oth, oth = 1 - area := ⟨_, rfl⟩
  have HO := Aside0.mk hoth
  have u1 : IntKind.i64.wrap (1 - (area : Int)) = (oth : Int) := by
    rw [hoth, show (1 : Int) - (area : Int) = ((1 - area : Nat) : Int) by omega]
    exact IntWalk.i64_in _ ⟨by omega, by omega⟩
  have ho : oth ≤ 1 := by omega
  obtain ⟨d1, hd1⟩ : ∃ d1, d1 = d.flush := ⟨_, rfl⟩
  have HD1 := Aside0.mk hd1
  have HQ1 := Aside0.mk (show d1.q = [] by rw [hd1]; rfl)
  have u3 : IntKind.u32.wrap (gen + 1) = gen + 1 := by
    simp [IntKind.wrap, IntKind.signed, IntKind.bits]
    omega
  clear h hk hoth hd1
  go_enter Try.func49, Try.ntmps49
  go_wp2_with (first
    | (go_at_call 82; go_must (refine (made_here HH.out).mono ?_; rintro e w1 ⟨rfl, rfl⟩))
    | (go_at_call 23; go_must (refine (Flush_here HH.out.swap hq).mono ?_; rw [← HD1.out]; rintro e w2 ⟨rfl, h⟩; have HF := Aside0.mk h.swap; clear h k0 k1 k2 k3 k4 k5 k6 k7; obtain ⟨k0, k1, k2, k3, k4, k5, _, k7⟩ := lg_cells HF.out; have k6 : w2.cell? ⟨gl, 6, none⟩ = some (.int .i64 3) := lg_stage HF.out rfl; have f6 := lg_frozen HF.out 6)))
  clear k0 k1 k2 k3 k4 k5 k7 k6 f6
  go_region_held3 (fun w' => w'.cell? ⟨gl, 0, none⟩ = some (.pointer (some ⟨g, 0, none⟩)) ∧ w'.cell? ⟨gl, 1, none⟩ = some (.int .u32 gen) ∧ w'.cell? ⟨gl, 7, none⟩ = some (vp) ∧ w'.cell? ⟨gl, 2, none⟩ = some (.int .i64 area))
    (first
      | exact lg_017 HG.out
      | exact lg_017 HF.out
      | exact lg_017 HF.out.drew)
    (first
      | (go_at_call 81; go_must (refine (turn_here HF.out.drew.swap (by rw [HQ1.out]; simp) (gen + 1) (oth : Int) (by omega) (by omega)).mono ?_; rintro e w3 ⟨rfl, h⟩; have HG := Aside0.mk h.swap; clear h)))
  all_goals
    have k6 : w3.cell? ⟨gl, 6, none⟩ = some (.int .i64 3) := lg_stage HG.out rfl
    have f6 := lg_frozen HG.out 6
    go_wp2_with fail
    go_ret2
    refine ⟨rfl, ?_⟩
    have hy := HG.out.putCell 6 (.int .i64 4)
    rw [HD1.out, HO.out] at hy
    exact hy
set_option maxHeartbeats 2000000 in
set_option maxRecDepth 100000 in
theorem Step_2 (h : Here w W (LogT gl g ⟨gen, area, tail, all, sure, 2⟩ (.slice Ap parts.length cp) :: DiskT g d :: BytesT (.slice Ap parts.length cp) parts :: Ps)) (hq : d.q.length ≤ 1000000) (ha : area ≤ 1) (hp : parts.length ≤ Sz d) :
    Calls Try.prog 49 #[.pointer (some ⟨gl, 0, none⟩)] W fun e W' => e = .returned (.tuple #[.int .i64 3, .int .i64 0]) ∧ Here w W' (LogT gl g ⟨gen, area, tail, all, sure, 3⟩ (.slice Ap parts.length cp) :: DiskT g (d.flush.write (plc d (1 - area) 0) parts) :: BytesT (.slice Ap parts.length cp) parts :: Ps) := by
  have HH := Aside0.mk h
  have hk := h.swap.diskOk
  have HK := Aside0.mk hk
  obtain ⟨k0, k1, k2, k3, k4, k5, _, k7⟩ := lg_cells h
  have k6 : W.cell? ⟨gl, 6, none⟩ = some (.int .i64 2) := lg_stage h rfl
  obtain ⟨oth, hoth⟩ : ∃ oth, oth = 1 - area := ⟨_, rfl⟩
  have HO := Aside0.mk hoth
  have u1 : IntKind.i64.wrap (1 - (area : Int)) = (oth : Int) := by
    rw [hoth, show (1 : Int) - (area : Int) = ((1 - area : Nat) : Int) by omega]
    exact IntWalk.i64_in _ ⟨by omega, by omega⟩
  have ho : oth ≤ 1 := by omega
  obtain ⟨d1, hd1⟩ : ∃ d1, d1 = d.flush := ⟨_, rfl⟩
  have HD1 := Aside0.mk hd1
  have HQ1 := Aside0.mk (show d1.q = [] by rw [hd1]; rfl)
  obtain ⟨p, hp1⟩ : ∃ p, p = plc d1 oth 0 := ⟨_, rfl⟩
  have HP1 := Aside0.mk hp1
  have HPP := Aside0.mk (show plc d1 oth 0 = plc d oth 0 by rw [hd1, plc_flush hk])
  have HFT := Aside0.mk (show d1.fits p parts.length by
    have hb : d1.b.length = d.b.length := by rw [hd1]; exact now_len hk
    have hlo := hk.lo
    rw [hp1, hd1, plc_flush hk]
    unfold plc Dm.fits
    rw [← hd1, hb]
    have hz2 : 2 * Sz d + 32 ≤ d.b.length := by unfold Sz; omega
    have : oth * Sz d ≤ 1 * Sz d := Nat.mul_le_mul_right _ ho
    omega)
  clear hp1 hp
  clear h hk hoth hd1
  go_enter Try.func49, Try.ntmps49
  go_wp2_with (first
    | (go_at_call 82; go_must (refine (made_here HH.out).mono ?_; rintro e w1 ⟨rfl, rfl⟩))
    | (go_at_call 23; go_must (refine (Flush_here HH.out.swap hq).mono ?_; rw [← HD1.out]; rintro e w2 ⟨rfl, h⟩; have HF := Aside0.mk h.swap; clear h k0 k1 k2 k3 k4 k5 k6 k7; obtain ⟨k0, k1, k2, k3, k4, k5, _, k7⟩ := lg_cells HF.out; have k6 : w2.cell? ⟨gl, 6, none⟩ = some (.int .i64 2) := lg_stage HF.out rfl; have f6 := lg_frozen HF.out 6)))
  clear k0 k1 k2 k3 k4 k5 k7 k6 f6
  go_region_held3 (fun w' => w'.cell? ⟨gl, 0, none⟩ = some (.pointer (some ⟨g, 0, none⟩)) ∧ w'.cell? ⟨gl, 1, none⟩ = some (.int .u32 gen) ∧ w'.cell? ⟨gl, 7, none⟩ = some (.slice Ap parts.length cp) ∧ w'.cell? ⟨gl, 2, none⟩ = some (.int .i64 area))
    (first
      | exact lg_017 HG.out
      | exact lg_017 HF.out
      | exact lg_017 HF.out.drew)
    (first
      | (go_at_call 73; go_must (refine (place_here HF.out.drew.swap oth 0 ho (by omega)).mono ?_; rw [← HP1.out]; rintro e w4 ⟨rfl, rfl⟩))
      | (go_at_call 21; go_must (refine (Write_here HF.out.drew.swap (by rw [HQ1.out]; simp) p Ap cp parts (bytes_of (Here.nth HF.out.drew 2 (by simp))) HFT.out).mono ?_; rintro e w3 ⟨rfl, h⟩; have HG := Aside0.mk h.swap; clear h)))
  all_goals
    have k6 : w3.cell? ⟨gl, 6, none⟩ = some (.int .i64 2) := lg_stage HG.out rfl
    have f6 := lg_frozen HG.out 6
    go_wp2_with fail
    go_ret2
    refine ⟨rfl, ?_⟩
    have hy := HG.out.putCell 6 (.int .i64 3)
    rw [HP1.out, HPP.out, HD1.out, HO.out] at hy
    exact hy
end
end Go.Proofs.Ytmbemlpmfklddaa.Own
namespace Go.Proofs.Ytmbemlpmfklddaa.Own
open Go.RowKit Go.Proofs.YtmbemlpmfklddaaW.PrintWords Go.Proofs.YtmbemlpmfklddaaW.PrintLast Go.Proofs.YtmbemlpmfklddaaW.PrintMore
section
variable {w W : World} {Ps : List Thing} {g gl : Nat} {d : Dm} {vp : Value} {gen : Int} {area tail all sure : Nat} {Ap : Option Addr} {cp : Nat} {parts : List Int}
set_option maxHeartbeats 16000000 in
set_option maxRecDepth 100000 in
theorem Step_4 (h : Here w W (LogT gl g ⟨gen, area, tail, all, sure, 4⟩ (.slice Ap parts.length cp) :: DiskT g d :: Ps)) (hq : d.q.length ≤ 1000000) (ha : area ≤ 1) (hg : 0 ≤ gen ∧ gen < 4294967295) :
    Calls Try.prog 49 #[.pointer (some ⟨gl, 0, none⟩)] W fun e W' => e = .returned (.tuple #[.int .i64 5, .int .i64 0]) ∧ Here w W' (LogT gl g ⟨gen + 1, 1 - area, parts.length, all, sure, 5⟩ (.slice none 0 0) :: DiskT g (d.flush.write (plc d area 0) (List.replicate (Sz d) 0)) :: Ps) := by
  have HH := Aside0.mk h
  have hk := h.swap.diskOk
  have HK := Aside0.mk hk
  obtain ⟨k0, k1, k2, k3, k4, k5, _, k7⟩ := lg_cells h
  have k6 : W.cell? ⟨gl, 6, none⟩ = some (.int .i64 4) := lg_stage h rfl
  obtain ⟨oth, hoth⟩ : ∃ oth, oth = 1 - area := ⟨_, rfl⟩
  have HO := Aside0.mk hoth
  have u1 : IntKind.i64.wrap (1 - (area : Int)) = (oth : Int) := by
    rw [hoth, show (1 : Int) - (area : Int) = ((1 - area : Nat) : Int) by omega]
    exact IntWalk.i64_in _ ⟨by omega, by omega⟩
  have ho : oth ≤ 1 := by omega
  obtain ⟨d1, hd1⟩ : ∃ d1, d1 = d.flush := ⟨_, rfl⟩
  have HD1 := Aside0.mk hd1
  have HQ1 := Aside0.mk (show d1.q = [] by rw [hd1]; rfl)
  have u3 : IntKind.u32.wrap (gen + 1) = gen + 1 := by
    simp [IntKind.wrap, IntKind.signed, IntKind.bits]
    omega
  have HP1 := Aside0.mk (show plc d1 area 0 = plc d area 0 by rw [hd1, plc_flush hk])
  have HS1 := Aside0.mk (show Sz d1 = Sz d by rw [hd1, Sz_flush hk])
  clear h hk hoth hd1
  go_enter Try.func49, Try.ntmps49
  go_wp2_with (first
    | (go_at_call 82; go_must (refine (made_here HH.out).mono ?_; rintro e w1 ⟨rfl, rfl⟩))
    | (go_at_call 23; go_must (refine (Flush_here HH.out.swap hq).mono ?_; rw [← HD1.out]; rintro e w2 ⟨rfl, h⟩; have HF := Aside0.mk h.swap; clear h k0 k1 k2 k3 k4 k5 k6 k7; obtain ⟨k0, k1, k2, k3, k4, k5, _, k7⟩ := lg_cells HF.out; have k6 : w2.cell? ⟨gl, 6, none⟩ = some (.int .i64 4) := lg_stage HF.out rfl; have f6 := lg_frozen HF.out 6)))
  clear k0 k1 k2 k3 k4 k5 k7 k6 f6
  go_region_held3 (fun w' => w'.cell? ⟨gl, 0, none⟩ = some (.pointer (some ⟨g, 0, none⟩)) ∧ w'.cell? ⟨gl, 1, none⟩ = some (.int .u32 gen) ∧ w'.cell? ⟨gl, 7, none⟩ = some (.slice Ap parts.length cp) ∧ w'.cell? ⟨gl, 2, none⟩ = some (.int .i64 area))
    (first
      | exact lg_017 HG.out
      | exact lg_017 HF.out
      | exact lg_017 HF.out.drew)
    (first
      | (go_at_call 76; go_must (refine (noughts_here (f := 0) HF.out.drew.swap (by rw [HQ1.out]; simp) area ha (Nat.zero_le _)).mono ?_; rintro e w3 ⟨rfl, h⟩; have HG := Aside0.mk h.swap; clear h)))
  all_goals
    obtain ⟨k0, k1, k2, k3, k4, k5, _, k7⟩ := lg_cells HG.out
    have f1 := lg_frozen HG.out 1
    have f2 := lg_frozen HG.out 2
    have f3 := lg_frozen HG.out 3
    have f6 := lg_frozen HG.out 6
    have f7 := lg_frozen HG.out 7
    have k6 : w3.cell? ⟨gl, 6, none⟩ = some (.int .i64 4) := lg_stage HG.out rfl
    have K6 := Aside0.mk k6
    have F6 := Aside0.mk f6
    clear k0 k4 k5 k6 f6 u1 hq ha hg ho
    go_wp2_with fail
    go_region
  all_goals
    have k6 := K6.out
    have f6 := F6.out
    go_wp2_with fail
    go_ret2
    refine ⟨rfl, ?_⟩
    have hy := ((((HG.out.drew.putCell 1 (.int .u32 (gen + 1))).putCell 2 (.int .i64 (oth : Int))).putCell 3 (.int .i64 (parts.length : Int))).putCell 7 (.slice none 0 0)).putCell 6 (.int .i64 5)
    rw [Nat.sub_zero] at hy
    rw [← HO.out, ← HP1.out, ← HS1.out, ← HD1.out]
    exact hy
end
end Go.Proofs.Ytmbemlpmfklddaa.Own
