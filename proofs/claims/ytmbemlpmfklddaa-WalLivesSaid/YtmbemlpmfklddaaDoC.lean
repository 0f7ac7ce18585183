/- An op of both, and, of a crash, the logs that are opened: they tell alike. -/
import Derived.Test.YtmbemlpmfklddaaDoB
import Derived.Deep.RegionHeld3
namespace Go.Proofs.Ytmbemlpmfklddaa.Own
open Go.RowKit Go.Proofs.YtmbemlpmfklddaaW.PrintWords Go.Proofs.YtmbemlpmfklddaaW.PrintLast Go.Proofs.YtmbemlpmfklddaaW.PrintMore
section
variable {w W : World} {Ps : List Thing} {gl g gr gx : Nat} {x : Lg} {d : Dm} {pb : List Int} {sp : ByteArray} {va vt : Value} {P N R : List (List Int)} {z i : Nat}
set_option maxHeartbeats 8000000 in
set_option maxRecDepth 100000 in
theorem do_0 (h : LivW w W gl g gr gx x d pb x sp d va vt Ps) (hsp : 1 ≤ x.stage → x.stage ≤ 4 → sp = strOfNums pb) (inv : LivI x d pb P N R z i) (hi : i ≤ 900) {n0 : Nat} (hn0 : d.b.length = n0) (la : Int) (A2 : Option Addr) (c2 : Nat) (b : List Int) (C2 : (Kd.int .u8).C w A2 b.length b) (k2 : b.length ≤ c2) (hb : Byt b) (hbl : b.length ≤ 1900) (A3 : Option Addr) (n3 c3 : Nat) :
    Calls Try.prog 55 #[.pointer (some ⟨g, 0, none⟩), .pointer (some ⟨gl, 0, none⟩), .pointer (some ⟨gr, 0, none⟩), .agg #[.int .i64 0, .int .i64 la, .slice A2 b.length c2, .slice A3 n3 c3]] W (DoPost w g gx z i n0) := by
  have HH := Aside0.mk (livw_box h #[.int .i64 0, .int .i64 la, .slice A2 b.length c2, .slice A3 n3 c3] 83)
  obtain ⟨o0, o1, o2, o3⟩ := livw_op HH.out
  have HO := Aside0.mk inv.ok
  obtain ⟨q0, t0, a0, al0, st0, gn0, p0⟩ := inv.lim (by omega)
  have L0 := Aside0.mk (And.intro q0 (And.intro t0 (And.intro a0 (And.intro al0 (And.intro st0 (And.intro gn0 p0))))))
  clear q0 t0 a0 al0 st0 gn0 p0
  obtain ⟨R1, inv1⟩ := inv.app b hb
  have HLN := Aside0.mk (show (appD x d b).b.length = n0 by unfold appD; split <;> exact hn0)
  obtain ⟨⟨ea, eb⟩, he⟩ : ∃ e, e = appE x d b := ⟨_, rfl⟩
  obtain ⟨x1, hx1⟩ : ∃ x1, x1 = appL x d b := ⟨_, rfl⟩
  obtain ⟨d1, hd1⟩ : ∃ d1, d1 = appD x d b := ⟨_, rfl⟩
  rw [← hx1, ← hd1] at inv1
  rw [← hd1] at HLN
  obtain ⟨s, hs⟩ : ∃ s, s = strOfNums b := ⟨_, rfl⟩
  have HS := Aside0.mk hs
  have HC2 := Aside0.mk C2
  have HB := Aside0.mk hb
  have HE := Aside0.mk he
  have HX1 := Aside0.mk hx1
  have HD1 := Aside0.mk hd1
  have HSP1 := Aside0.mk (show 1 ≤ x1.stage → x1.stage ≤ 4 → sp = strOfNums pb by rw [hx1, appL_stage]; exact hsp)
  have e7 : (ea == ea) = true := beq_self_eq_true _
  have e8 : (eb == eb) = true := beq_self_eq_true _
  obtain ⟨q1, t1, _, _, _, gn1, _⟩ := inv1.lim (by omega)
  have HI1 := Aside0.mk inv1
  have HO1 := Aside0.mk inv1.ok
  have HT1 := Aside0.mk t1
  obtain ⟨rm, hrm⟩ : ∃ rm, rm = Sz d1 - x1.tail := ⟨_, rfl⟩
  have HRM := Aside0.mk hrm
  have e1 : ((x1.all : Int) == (x1.all : Int)) = true := beq_self_eq_true _
  have e2 : ((x1.sure : Int) == (x1.sure : Int)) = true := beq_self_eq_true _
  have e3 : ((rm : Int) == (rm : Int)) = true := beq_self_eq_true _
  have e4 : ((x1.stage : Int) == (x1.stage : Int)) = true := beq_self_eq_true _
  have e5 : (x1.gen == x1.gen) = true := beq_self_eq_true _
  have e6 : IntKind.u64.wrap x1.gen = x1.gen := by
    simp [IntKind.wrap, IntKind.signed, IntKind.bits]
    omega
  obtain ⟨n, hn⟩ : ∃ n, n = b.length := ⟨_, rfl⟩
  have HN := Aside0.mk hn
  rw [← hn] at hbl k2 HH o2 ⊢
  clear h hsp inv inv1 he hx1 hd1 hs C2 hb hrm hn
  go_enter Try.func55, Try.ntmps55
  go_wp2_with (first
    | (go_at_call 46; go_must (refine (Append_n HH.out L0.out.1 A2 n c2 b HN.out HC2.out k2 L0.out.2.1 L0.out.2.2.1 L0.out.2.2.2.1 HE.out HX1.out HD1.out).mono ?_; rintro e w1 ⟨rfl, h⟩; have HG := Aside0.mk h; clear h HH o0 o1 o2 o3; obtain ⟨o0, o1, o2, o3⟩ := livw_op HG.out; have zc := conv_str (c := c2) HC2.out HN.out HS.out HG.out.below))
    | (go_at_call 85; go_must (refine (RlAppend_e HG.out HO.out L0.out.1 b HB.out s HS.out (by rw [← HN.out]; omega) L0.out.2.1 L0.out.2.2.1 L0.out.2.2.2.1 HE.out HX1.out HD1.out).mono ?_; rintro e w2 ⟨rfl, va1, vt1, h⟩; have HF := Aside0.mk h; clear h HG o0 o1 o2 o3 zc; obtain ⟨r0, r1, r4, r5, r6⟩ := livw_cells HF.out)))
  go_quiet (first
    | (go_at_call 56; exact Calls.quiet_of_same (All_q HF.out _))
    | (go_at_call 57; exact Calls.quiet_of_same (Sure_q HF.out _))
    | (go_at_call 53; exact RoomL_q HF.out HT1.out rm HRM.out _)
    | (go_at_call 90; exact RlRoomL_q HF.out HO1.out HT1.out rm HRM.out _)
    | (go_at_call 51; exact Calls.quiet_of_same (Stage_q HF.out _))
    | (go_at_call 58; exact Calls.quiet_of_same (Gen_q HF.out _)))
  go_wp2_with fail
  go_ret3
  exact ⟨_, _, x1, d1, pb, sp, va1, vt1, _, _, _, _, rfl, HF.out.then_ (pw_below_drewN (Below.refl _ _) _), HSP1.out, HI1.out, HLN.out⟩
set_option maxHeartbeats 8000000 in
set_option maxRecDepth 100000 in
theorem do_1 (h : LivW w W gl g gr gx x d pb x sp d va vt Ps) (hsp : 1 ≤ x.stage → x.stage ≤ 4 → sp = strOfNums pb) (inv : LivI x d pb P N R z i) (hi : i ≤ 900) {n0 : Nat} (hn0 : d.b.length = n0) (la : Int) (A2 A3 : Option Addr) (n2 c2 n3 c3 : Nat) :
    Calls Try.prog 55 #[.pointer (some ⟨g, 0, none⟩), .pointer (some ⟨gl, 0, none⟩), .pointer (some ⟨gr, 0, none⟩), .agg #[.int .i64 1, .int .i64 la, .slice A2 n2 c2, .slice A3 n3 c3]] W (DoPost w g gx z i n0) := by
  have HH := Aside0.mk (livw_box h #[.int .i64 1, .int .i64 la, .slice A2 n2 c2, .slice A3 n3 c3] 83)
  obtain ⟨o0, o1, o2, o3⟩ := livw_op HH.out
  have HO := Aside0.mk inv.ok
  obtain ⟨q0, t0, a0, al0, st0, gn0, p0⟩ := inv.lim (by omega)
  have L0 := Aside0.mk (And.intro q0 (And.intro t0 (And.intro a0 (And.intro al0 (And.intro st0 (And.intro gn0 p0))))))
  clear q0 t0 a0 al0 st0 gn0 p0
  have inv1 := inv.sync
  have HLN := Aside0.mk (show d.flush.b.length = n0 from (Dm.now_length inv.ok).trans hn0)
  obtain ⟨x1, hx1⟩ : ∃ x1 : Lg, x1 = { x with sure := x.all } := ⟨_, rfl⟩
  obtain ⟨d1, hd1⟩ : ∃ d1, d1 = d.flush := ⟨_, rfl⟩
  rw [← hx1, ← hd1] at inv1
  rw [← hd1] at HLN
  have HX1 := Aside0.mk hx1
  have HD1 := Aside0.mk hd1
  have HSP1 := Aside0.mk (show 1 ≤ x1.stage → x1.stage ≤ 4 → sp = strOfNums pb by rw [hx1]; exact hsp)
  obtain ⟨q1, t1, _, _, _, gn1, _⟩ := inv1.lim (by omega)
  have HI1 := Aside0.mk inv1
  have HO1 := Aside0.mk inv1.ok
  have HT1 := Aside0.mk t1
  obtain ⟨rm, hrm⟩ : ∃ rm, rm = Sz d1 - x1.tail := ⟨_, rfl⟩
  have HRM := Aside0.mk hrm
  have e1 : ((x1.all : Int) == (x1.all : Int)) = true := beq_self_eq_true _
  have e2 : ((x1.sure : Int) == (x1.sure : Int)) = true := beq_self_eq_true _
  have e3 : ((rm : Int) == (rm : Int)) = true := beq_self_eq_true _
  have e4 : ((x1.stage : Int) == (x1.stage : Int)) = true := beq_self_eq_true _
  have e5 : (x1.gen == x1.gen) = true := beq_self_eq_true _
  have e6 : IntKind.u64.wrap x1.gen = x1.gen := by
    simp [IntKind.wrap, IntKind.signed, IntKind.bits]
    omega
  clear h hsp inv inv1 hx1 hd1 hrm
  go_enter Try.func55, Try.ntmps55
  go_wp2_with (first
    | (go_at_call 47; go_must (refine (Sync_e HH.out L0.out.1 HX1.out HD1.out).mono ?_; rintro e w1 ⟨rfl, h⟩; have HG := Aside0.mk h; clear h HH o0 o1 o2 o3))
    | (go_at_call 86; go_must (refine (RlSync_e HG.out HO.out L0.out.1 HX1.out HD1.out).mono ?_; rintro e w2 ⟨rfl, va1, vt1, h⟩; have HF := Aside0.mk h; clear h HG; obtain ⟨r0, r1, r4, r5, r6⟩ := livw_cells HF.out)))
  go_quiet (first
    | (go_at_call 56; exact Calls.quiet_of_same (All_q HF.out _))
    | (go_at_call 57; exact Calls.quiet_of_same (Sure_q HF.out _))
    | (go_at_call 53; exact RoomL_q HF.out HT1.out rm HRM.out _)
    | (go_at_call 90; exact RlRoomL_q HF.out HO1.out HT1.out rm HRM.out _)
    | (go_at_call 51; exact Calls.quiet_of_same (Stage_q HF.out _))
    | (go_at_call 58; exact Calls.quiet_of_same (Gen_q HF.out _)))
  go_wp2_with fail
  go_ret3
  exact ⟨_, _, x1, d1, pb, sp, va1, vt1, _, _, _, _, rfl, HF.out.then_ (pw_below_drewN (Below.refl _ _) _), HSP1.out, HI1.out, HLN.out⟩
theorem livw_op8 {T : Thing} {xr : Lg} {dr : Dm} {o : Nat} {k l : Int} {A2 A3 : Option Addr} {n2 c2 n3 c3 : Nat} (h : LivW w W gl g gr gx x d pb xr sp dr va vt (T :: CellsT o #[.int .i64 k, .int .i64 l, .slice A2 n2 c2, .slice A3 n3 c3] 83 :: Ps)) : W.cell? ⟨o, 3, none⟩ = some (.slice A3 n3 c3) := by
  obtain ⟨vl, vb, h1, h⟩ := h
  exact cell_of_row W o 3 _ _ _ ((Here.nth h 8 (by simp)).cells)
set_option maxHeartbeats 8000000 in
set_option maxRecDepth 100000 in
theorem do_2 (h : LivW w W gl g gr gx x d pb x sp d va vt Ps) (hsp : 1 ≤ x.stage → x.stage ≤ 4 → sp = strOfNums pb) (inv : LivI x d pb P N R z i) (hi : i ≤ 900) {n0 : Nat} (hn0 : d.b.length = n0) (la : Int) (A2 : Option Addr) (n2 c2 : Nat) (A3 : Option Addr) (c3 : Nat) (L : List (List Int)) (C3 : BL.C w A3 L.length L) (hL : L.length ≤ 5) (hp : ∀ p ∈ L, p.length ≤ 1000) (hB : ∀ p ∈ L, Byt p) :
    Calls Try.prog 55 #[.pointer (some ⟨g, 0, none⟩), .pointer (some ⟨gl, 0, none⟩), .pointer (some ⟨gr, 0, none⟩), .agg #[.int .i64 2, .int .i64 la, .slice A2 n2 c2, .slice A3 L.length c3]] W (DoPost w g gx z i n0) := by
  have HH := Aside0.mk (livw_box h #[.int .i64 2, .int .i64 la, .slice A2 n2 c2, .slice A3 L.length c3] 83)
  obtain ⟨o0, o1, o2, o3⟩ := livw_op HH.out
  have HO := Aside0.mk inv.ok
  obtain ⟨q0, t0, a0, al0, st0, gn0, p0⟩ := inv.lim (by omega)
  have L0 := Aside0.mk (And.intro q0 (And.intro t0 (And.intro a0 (And.intro al0 (And.intro st0 (And.intro gn0 p0))))))
  clear q0 t0 a0 al0 st0 gn0 p0
  obtain ⟨N1, inv1⟩ := inv.beg L hp hB
  have HLN := Aside0.mk hn0
  obtain ⟨ea, he⟩ : ∃ e, e = begE x d L := ⟨_, rfl⟩
  obtain ⟨x1, hx1⟩ : ∃ x1, x1 = begL x d L := ⟨_, rfl⟩
  obtain ⟨d1, hd1⟩ : ∃ d1, d1 = d := ⟨_, rfl⟩
  obtain ⟨pb1, hpb1⟩ : ∃ pb1, pb1 = begP x d pb L := ⟨_, rfl⟩
  rw [← hx1, ← hpb1] at inv1
  have HC3 := Aside0.mk C3
  have HP := Aside0.mk hp
  have HB := Aside0.mk hB
  have HE := Aside0.mk he
  have HX1 := Aside0.mk hx1
  have HPB1 := Aside0.mk hpb1
  have HSPX := Aside0.mk (show ∀ sp' : ByteArray, (begE x d L = 0 → sp' = txtP L) → (begE x d L ≠ 0 → sp' = sp) → 1 ≤ x1.stage → x1.stage ≤ 4 → sp' = strOfNums pb1 by
    intro sp' f1 f2
    rw [hx1, hpb1]
    unfold begL begP
    by_cases c : begE x d L = 0
    · rw [if_pos c, if_pos c]
      exact fun _ _ => f1 c
    · rw [if_neg c, if_neg c, f2 c]
      exact hsp)
  have e7 : (ea == ea) = true := beq_self_eq_true _
  rw [← hd1] at inv1
  obtain ⟨q1, t1, _, _, _, gn1, _⟩ := inv1.lim (by omega)
  have HI1 := Aside0.mk inv1
  have HO1 := Aside0.mk inv1.ok
  have HT1 := Aside0.mk t1
  obtain ⟨rm, hrm⟩ : ∃ rm, rm = Sz d1 - x1.tail := ⟨_, rfl⟩
  have HRM := Aside0.mk hrm
  have e1 : ((x1.all : Int) == (x1.all : Int)) = true := beq_self_eq_true _
  have e2 : ((x1.sure : Int) == (x1.sure : Int)) = true := beq_self_eq_true _
  have e3 : ((rm : Int) == (rm : Int)) = true := beq_self_eq_true _
  have e4 : ((x1.stage : Int) == (x1.stage : Int)) = true := beq_self_eq_true _
  have e5 : (x1.gen == x1.gen) = true := beq_self_eq_true _
  have e6 : IntKind.u64.wrap x1.gen = x1.gen := by
    simp [IntKind.wrap, IntKind.signed, IntKind.bits]
    omega
  subst hd1
  have O3 := Aside0.mk o3
  clear h hsp inv inv1 he hx1 hpb1 C3 hp hB hrm
  go_enter Try.func55, Try.ntmps55
  go_wp2_with fail
  clear o0 o1 o2 o3
  go_region_held3 (fun w' => w'.cell? ⟨W.heap.size, 3, none⟩ = some (.slice A3 L.length c3))
    (first
      | exact O3.out
      | exact (livw_op HG.out).2.2.2
      | exact livw_op8 HK.out
      | exact livw_op8 HJ.out)
    (first
      | (go_at_call 48; go_must (refine (Begin_e (HH.out.drew) A3 c3 L HC3.out hL HP.out HE.out HX1.out HPB1.out).mono ?_; rintro e w1 ⟨rfl, h⟩; have HG := Aside0.mk h; clear h HH))
      | (go_at_call 88; go_must (refine (texts_e HG.out A3 c3 L HC3.out hL).mono ?_; rintro e w2 ⟨A7, c7, rfl, h⟩; have HJ := Aside0.mk h; clear h))
      | (go_at_call 87; go_must (refine (RlBegin_e A7 c7 L HJ.out HO.out hL HP.out HB.out HE.out HX1.out).mono ?_; rintro e w3 ⟨rfl, sp1, f1, f2, h⟩; have HSP1 := Aside0.mk (HSPX.out sp1 f1 f2); have HK := Aside0.mk h; clear h f1 f2)))
  all_goals
    have HF := Aside0.mk HK.out
    clear HG HJ HK
    obtain ⟨r0, r1, r4, r5, r6⟩ := livw_cells HF.out
    go_wp2_with fail
    go_quiet (first
      | (go_at_call 56; exact Calls.quiet_of_same (All_q HF.out _))
      | (go_at_call 57; exact Calls.quiet_of_same (Sure_q HF.out _))
      | (go_at_call 53; exact RoomL_q HF.out HT1.out rm HRM.out _)
      | (go_at_call 90; exact RlRoomL_q HF.out HO1.out HT1.out rm HRM.out _)
      | (go_at_call 51; exact Calls.quiet_of_same (Stage_q HF.out _))
      | (go_at_call 58; exact Calls.quiet_of_same (Gen_q HF.out _)))
    go_wp2_with fail
    go_ret3
    exact ⟨_, _, x1, _, pb1, sp1, va, vt, _, _, _, _, rfl, HF.out.then_ (pw_below_drewN (Below.refl _ _) _), HSP1.out, HI1.out, HLN.out⟩
theorem step_len {x : Lg} {d : Dm} (ho : d.Ok) (pb : List Int) : (stepD x d pb).b.length = d.b.length := by
  have hf : d.flush.b.length = d.b.length := Dm.now_length ho
  unfold stepD
  split <;> first | rfl | exact hf
theorem step_inv (inv : LivI x d pb P N R z i) : ∃ P1 N1 R1, LivI (stepL x pb) (stepD x d pb) pb P1 N1 R1 z (i + 1) := by
  by_cases h4 : x.stage = 4
  · exact ⟨N, N, [], inv.wipe h4⟩
  · exact ⟨P, N, R, inv.step h4⟩
set_option maxHeartbeats 8000000 in
set_option maxRecDepth 100000 in
theorem do_3 (h : LivW w W gl g gr gx x d pb x sp d va vt Ps) (hsp : 1 ≤ x.stage → x.stage ≤ 4 → sp = strOfNums pb) (inv : LivI x d pb P N R z i) (hi : i ≤ 900) {n0 : Nat} (hn0 : d.b.length = n0) (la : Int) (A2 A3 : Option Addr) (n2 c2 n3 c3 : Nat) :
    Calls Try.prog 55 #[.pointer (some ⟨g, 0, none⟩), .pointer (some ⟨gl, 0, none⟩), .pointer (some ⟨gr, 0, none⟩), .agg #[.int .i64 3, .int .i64 la, .slice A2 n2 c2, .slice A3 n3 c3]] W (DoPost w g gx z i n0) := by
  have HH := Aside0.mk (livw_box h #[.int .i64 3, .int .i64 la, .slice A2 n2 c2, .slice A3 n3 c3] 83)
  obtain ⟨o0, o1, o2, o3⟩ := livw_op HH.out
  have HO := Aside0.mk inv.ok
  obtain ⟨q0, t0, a0, al0, st0, gn0, p0⟩ := inv.lim (by omega)
  have L0 := Aside0.mk (And.intro q0 (And.intro t0 (And.intro a0 (And.intro al0 (And.intro st0 (And.intro gn0 p0))))))
  clear q0 t0 a0 al0 st0 gn0 p0
  obtain ⟨P1, N1, R1, inv1⟩ := step_inv inv
  have HLN := Aside0.mk (show (stepD x d pb).b.length = n0 from (step_len inv.ok pb).trans hn0)
  obtain ⟨⟨ea, eb⟩, he⟩ : ∃ e, e = stepV x := ⟨_, rfl⟩
  obtain ⟨x1, hx1⟩ : ∃ x1, x1 = stepL x pb := ⟨_, rfl⟩
  obtain ⟨d1, hd1⟩ : ∃ d1, d1 = stepD x d pb := ⟨_, rfl⟩
  rw [← hx1, ← hd1] at inv1
  rw [← hd1] at HLN
  have HE := Aside0.mk he
  have HX1 := Aside0.mk hx1
  have HD1 := Aside0.mk hd1
  have HSP := Aside0.mk hsp
  have e7 : (ea == ea) = true := beq_self_eq_true _
  have e8 : (eb == eb) = true := beq_self_eq_true _
  obtain ⟨q1, t1, _, _, _, gn1, _⟩ := inv1.lim (by omega)
  have HI1 := Aside0.mk inv1
  have HO1 := Aside0.mk inv1.ok
  have HT1 := Aside0.mk t1
  obtain ⟨rm, hrm⟩ : ∃ rm, rm = Sz d1 - x1.tail := ⟨_, rfl⟩
  have HRM := Aside0.mk hrm
  have e1 : ((x1.all : Int) == (x1.all : Int)) = true := beq_self_eq_true _
  have e2 : ((x1.sure : Int) == (x1.sure : Int)) = true := beq_self_eq_true _
  have e3 : ((rm : Int) == (rm : Int)) = true := beq_self_eq_true _
  have e4 : ((x1.stage : Int) == (x1.stage : Int)) = true := beq_self_eq_true _
  have e5 : (x1.gen == x1.gen) = true := beq_self_eq_true _
  have e6 : IntKind.u64.wrap x1.gen = x1.gen := by
    simp [IntKind.wrap, IntKind.signed, IntKind.bits]
    omega
  clear h hsp inv inv1 he hx1 hd1 hrm
  go_enter Try.func55, Try.ntmps55
  go_wp2_with (first
    | (go_at_call 49; go_must (refine (Step_e HH.out L0.out.1 L0.out.2.2.1 L0.out.2.2.2.2.1 L0.out.2.2.2.2.2.1 L0.out.2.2.2.2.2.2 HE.out HX1.out HD1.out).mono ?_; rintro e w1 ⟨rfl, h⟩; have HG := Aside0.mk h; clear h HH o0 o1 o2 o3))
    | (go_at_call 89; go_must (refine (RlStep_e HG.out HO.out L0.out.1 L0.out.2.2.1 L0.out.2.2.2.2.1 L0.out.2.2.2.2.2.1 pb HSP.out L0.out.2.2.2.2.2.2 HE.out HX1.out HD1.out).mono ?_; rintro e w2 ⟨rfl, va1, vt1, sp1, hs1, h⟩; have HSP1 := Aside0.mk hs1; have HF := Aside0.mk h; clear h hs1 HG; obtain ⟨r0, r1, r4, r5, r6⟩ := livw_cells HF.out)))
  go_quiet (first
    | (go_at_call 56; exact Calls.quiet_of_same (All_q HF.out _))
    | (go_at_call 57; exact Calls.quiet_of_same (Sure_q HF.out _))
    | (go_at_call 53; exact RoomL_q HF.out HT1.out rm HRM.out _)
    | (go_at_call 90; exact RlRoomL_q HF.out HO1.out HT1.out rm HRM.out _)
    | (go_at_call 51; exact Calls.quiet_of_same (Stage_q HF.out _))
    | (go_at_call 58; exact Calls.quiet_of_same (Gen_q HF.out _)))
  go_wp2_with fail
  go_ret3
  exact ⟨_, _, x1, d1, pb, sp1, va1, vt1, _, _, _, _, rfl, HF.out.then_ (pw_below_drewN (Below.refl _ _) _), HSP1.out, HI1.out, HLN.out⟩
set_option maxHeartbeats 8000000 in
set_option maxRecDepth 100000 in
theorem do_4 (h : LivW w W gl g gr gx x d pb x sp d va vt Ps) (_hsp : 1 ≤ x.stage → x.stage ≤ 4 → sp = strOfNums pb) (inv : LivI x d pb P N R z i) (hi : i ≤ 900) {n0 : Nat} (hn0 : d.b.length = n0) (la : Int) (hla : -9223372036854775808 ≤ la ∧ la ≤ 9223372036854775807) (A2 A3 : Option Addr) (n2 c2 n3 c3 : Nat) :
    Calls Try.prog 55 #[.pointer (some ⟨g, 0, none⟩), .pointer (some ⟨gl, 0, none⟩), .pointer (some ⟨gr, 0, none⟩), .agg #[.int .i64 4, .int .i64 la, .slice A2 n2 c2, .slice A3 n3 c3]] W (DoPost w g gx z i n0) := by
  have HH := Aside0.mk (livw_box h #[.int .i64 4, .int .i64 la, .slice A2 n2 c2, .slice A3 n3 c3] 83)
  obtain ⟨o0, o1, o2, o3⟩ := livw_op HH.out
  have HO := Aside0.mk inv.ok
  obtain ⟨q0, t0, a0, al0, st0, gn0, p0⟩ := inv.lim (by omega)
  have L0 := Aside0.mk (And.intro q0 (And.intro t0 (And.intro a0 (And.intro al0 (And.intro st0 (And.intro gn0 p0))))))
  clear q0 t0 a0 al0 st0 gn0 p0
  obtain ⟨gen, area, tail, L, P1, R1, hf, _, inv1⟩ := inv.crash (by omega) la
  have HLN := Aside0.mk (show (opnD (d.settle la) area tail).b.length = n0 from (settle_len d la).trans hn0)
  obtain ⟨x1, hx1⟩ : ∃ x1 : Lg, x1 = ⟨gen, area, tail, 0, 0, 0⟩ := ⟨_, rfl⟩
  obtain ⟨ds, hds⟩ : ∃ ds, ds = d.settle la := ⟨_, rfl⟩
  rw [← hds] at hf inv1
  obtain ⟨d1, hd1⟩ : ∃ d1, d1 = opnD ds area tail := ⟨_, rfl⟩
  rw [← hx1, ← hd1] at inv1
  rw [← hds, ← hd1] at HLN
  have HX1 := Aside0.mk hx1
  have HD1 := Aside0.mk hd1
  have HDS := Aside0.mk hds
  have HFO := Aside0.mk hf
  have HOS := Aside0.mk (show ds.Ok by rw [hds]; exact Dm.ok_settle inv.ok la)
  have HBS := Aside0.mk (show ByD ds by rw [hds]; exact inv.byt.settle la)
  have HQS := Aside0.mk (show ds.q.length ≤ 998000 by rw [hds]; simp [Dm.settle])
  have HSP1 := Aside0.mk (show 1 ≤ x1.stage → x1.stage ≤ 4 → (⟨#[]⟩ : ByteArray) = strOfNums [] by rw [hx1]; intro h; simp at h)
  obtain ⟨q1, t1, _, _, _, gn1, _⟩ := inv1.lim (by omega)
  have HI1 := Aside0.mk inv1
  have HO1 := Aside0.mk inv1.ok
  have HT1 := Aside0.mk t1
  obtain ⟨rm, hrm⟩ : ∃ rm, rm = Sz d1 - x1.tail := ⟨_, rfl⟩
  have HRM := Aside0.mk hrm
  have e1 : ((x1.all : Int) == (x1.all : Int)) = true := beq_self_eq_true _
  have e2 : ((x1.sure : Int) == (x1.sure : Int)) = true := beq_self_eq_true _
  have e3 : ((rm : Int) == (rm : Int)) = true := beq_self_eq_true _
  have e4 : ((x1.stage : Int) == (x1.stage : Int)) = true := beq_self_eq_true _
  have e5 : (x1.gen == x1.gen) = true := beq_self_eq_true _
  have e6 : IntKind.u64.wrap x1.gen = x1.gen := by
    simp [IntKind.wrap, IntKind.signed, IntKind.bits]
    omega
  have RC := Aside0.mk (livw_cells HH.out).1
  have T1 : True := trivial
  clear h inv inv1 hx1 hd1 hds hf hrm
  go_enter Try.func55, Try.ntmps55
  go_wp2_with (first
    | (go_at_call 22; go_must (refine (Crash_e HH.out L0.out.1 la HDS.out).mono ?_; rintro e w1 ⟨rfl, h⟩; have HG := Aside0.mk h; clear h HH o0 o1 o2 o3)))
  go_region_held3 (fun w' => w'.cell? ⟨gr, 0, none⟩ = some (.pointer (some ⟨gx, 0, none⟩)) ∧ w'.cell? ⟨W.heap.size, 1, none⟩ = some (.int .i64 la))
    (first
      | exact ⟨(livw_cells HJ.out).1, (livw_op HJ.out).2.1⟩
      | exact ⟨(livw_cells HG.out).1, (livw_op HG.out).2.1⟩
      | exact ⟨(livw_cells HG.out.drew).1, (livw_op HG.out.drew).2.1⟩)
    (first
      | (go_at_call 70; go_must (refine (RlCrash_e HG.out.drew HO.out L0.out.1 la hla HDS.out).mono ?_; rintro e w2 ⟨rfl, h⟩; have HJ := Aside0.mk h; clear h)))
  all_goals
    clear HG
    go_wp2_with (first
      | (go_at_call 40; go_must (refine (Open_e HJ.out HQS.out HBS.out gen area tail L P1 R1 HFO.out HX1.out HD1.out).mono ?_; rintro e w3 ⟨gl1, Ap, cp, Ar, cr, Qs, rfl, h⟩; have HK := Aside0.mk h; clear h HJ; have rk0 := (livw_cells HK.out).1))
      | (go_at_call 41; go_must (refine (RlOpen_e HK.out HOS.out HQS.out HBS.out gen area tail L P1 R1 HFO.out HX1.out HD1.out).mono ?_; rintro e w4 ⟨gr1, Bp, bp, Br, br, va1, vt1, Qs2, rfl, h⟩; have HL := Aside0.mk h; clear h HK rk0))
      | (go_at_call 42; have _t := T1; clear T1; go_must (refine (same1_e HL.out).mono ?_; rintro e w5 ⟨rfl, h⟩; have HM := Aside0.mk h; clear h HL))
      | (go_at_call 42; go_must (refine (same2_e HM.out).mono ?_; rintro e w6 ⟨rfl, h⟩; have HF := Aside0.mk h; clear h HM; obtain ⟨r0, r1, r4, r5, r6⟩ := livw_cells HF.out)))
    go_quiet (first
      | (go_at_call 56; exact Calls.quiet_of_same (All_q HF.out _))
      | (go_at_call 57; exact Calls.quiet_of_same (Sure_q HF.out _))
      | (go_at_call 53; exact RoomL_q HF.out HT1.out rm HRM.out _)
      | (go_at_call 90; exact RlRoomL_q HF.out HO1.out HT1.out rm HRM.out _)
      | (go_at_call 51; exact Calls.quiet_of_same (Stage_q HF.out _))
      | (go_at_call 58; exact Calls.quiet_of_same (Gen_q HF.out _)))
    go_wp2_with fail
    go_ret3
    exact ⟨_, _, x1, d1, [], ⟨#[]⟩, va1, vt1, _, _, _, _, rfl, HF.out.then_ (pw_below_drewN (Below.refl _ _) _), HSP1.out, HI1.out, HLN.out⟩
set_option maxHeartbeats 8000000 in
set_option maxRecDepth 100000 in
theorem do_5 (h : LivW w W gl g gr gx x d pb x sp d va vt Ps) (hsp : 1 ≤ x.stage → x.stage ≤ 4 → sp = strOfNums pb) (inv : LivI x d pb P N R z i) (hi : i ≤ 900) {n0 : Nat} (hn0 : d.b.length = n0) (kd la : Int) (A2 A3 : Option Addr) (n2 c2 n3 c3 : Nat) (hk : kd ≠ 0 ∧ kd ≠ 1 ∧ kd ≠ 2 ∧ kd ≠ 3 ∧ kd ≠ 4) :
    Calls Try.prog 55 #[.pointer (some ⟨g, 0, none⟩), .pointer (some ⟨gl, 0, none⟩), .pointer (some ⟨gr, 0, none⟩), .agg #[.int .i64 kd, .int .i64 la, .slice A2 n2 c2, .slice A3 n3 c3]] W (DoPost w g gx z i n0) := by
  have HH := Aside0.mk (livw_box h #[.int .i64 kd, .int .i64 la, .slice A2 n2 c2, .slice A3 n3 c3] 83)
  obtain ⟨o0, o1, o2, o3⟩ := livw_op HH.out
  have HO := Aside0.mk inv.ok
  obtain ⟨q0, t0, a0, al0, st0, gn0, p0⟩ := inv.lim (by omega)
  have L0 := Aside0.mk (And.intro q0 (And.intro t0 (And.intro a0 (And.intro al0 (And.intro st0 (And.intro gn0 p0))))))
  clear q0 t0 a0 al0 st0 gn0 p0
  have inv1 := inv.more
  have HLN := Aside0.mk hn0
  obtain ⟨x1, hx1⟩ : ∃ x1, x1 = x := ⟨_, rfl⟩
  obtain ⟨d1, hd1⟩ : ∃ d1, d1 = d := ⟨_, rfl⟩
  rw [← hx1, ← hd1] at inv1
  have g0 : (kd == 0) = false := beq_eq_false_iff_ne.mpr hk.1
  have g1 : (kd == 1) = false := beq_eq_false_iff_ne.mpr hk.2.1
  have g2 : (kd == 2) = false := beq_eq_false_iff_ne.mpr hk.2.2.1
  have g3 : (kd == 3) = false := beq_eq_false_iff_ne.mpr hk.2.2.2.1
  have g4 : (kd == 4) = false := beq_eq_false_iff_ne.mpr hk.2.2.2.2
  obtain ⟨q1, t1, _, _, _, gn1, _⟩ := inv1.lim (by omega)
  have HI1 := Aside0.mk inv1
  have HO1 := Aside0.mk inv1.ok
  have HT1 := Aside0.mk t1
  obtain ⟨rm, hrm⟩ : ∃ rm, rm = Sz d1 - x1.tail := ⟨_, rfl⟩
  have HRM := Aside0.mk hrm
  have e1 : ((x1.all : Int) == (x1.all : Int)) = true := beq_self_eq_true _
  have e2 : ((x1.sure : Int) == (x1.sure : Int)) = true := beq_self_eq_true _
  have e3 : ((rm : Int) == (rm : Int)) = true := beq_self_eq_true _
  have e4 : ((x1.stage : Int) == (x1.stage : Int)) = true := beq_self_eq_true _
  have e5 : (x1.gen == x1.gen) = true := beq_self_eq_true _
  have e6 : IntKind.u64.wrap x1.gen = x1.gen := by
    simp [IntKind.wrap, IntKind.signed, IntKind.bits]
    omega
  subst hx1 hd1
  have HSP1 := Aside0.mk hsp
  have HF := Aside0.mk HH.out
  obtain ⟨r0, r1, r4, r5, r6⟩ := livw_cells HF.out
  clear h hsp inv inv1 hrm HH hk
  go_enter Try.func55, Try.ntmps55
  go_wp2_with fail
  go_quiet (first
    | (go_at_call 56; exact Calls.quiet_of_same (All_q HF.out _))
    | (go_at_call 57; exact Calls.quiet_of_same (Sure_q HF.out _))
    | (go_at_call 53; exact RoomL_q HF.out HT1.out rm HRM.out _)
    | (go_at_call 90; exact RlRoomL_q HF.out HO1.out HT1.out rm HRM.out _)
    | (go_at_call 51; exact Calls.quiet_of_same (Stage_q HF.out _))
    | (go_at_call 58; exact Calls.quiet_of_same (Gen_q HF.out _)))
  go_wp2_with fail
  go_ret3
  exact ⟨_, _, _, _, pb, sp, va, vt, _, _, _, _, rfl, HF.out.then_ (pw_below_drewN (Below.refl _ _) _), HSP1.out, HI1.out, HLN.out⟩
end
end Go.Proofs.Ytmbemlpmfklddaa.Own
namespace Go.Proofs.Ytmbemlpmfklddaa.Own
open Go.RowKit Go.Proofs.YtmbemlpmfklddaaW.PrintWords Go.Proofs.YtmbemlpmfklddaaW.PrintLast Go.Proofs.YtmbemlpmfklddaaW.PrintMore
section
variable {w W : World} {Ps : List Thing} {gl g gr gx : Nat} {x : Lg} {d : Dm} {pb : List Int} {sp : ByteArray} {va vt : Value} {P N R : List (List Int)} {z i : Nat}
/-- An op, whatever its kind. -/
theorem do_any (h : LivW w W gl g gr gx x d pb x sp d va vt Ps) (hsp : 1 ≤ x.stage → x.stage ≤ 4 → sp = strOfNums pb) (inv : LivI x d pb P N R z i) (hi : i ≤ 900) {n0 : Nat} (hn0 : d.b.length = n0) (kd la : Int) (hla : -9223372036854775808 ≤ la ∧ la ≤ 9223372036854775807)
    (A2 : Option Addr) (c2 : Nat) (b : List Int) (C2 : (Kd.int .u8).C w A2 b.length b) (k2 : b.length ≤ c2) (hb : Byt b) (hbl : b.length ≤ 1900) (A3 : Option Addr) (c3 : Nat) (L : List (List Int)) (C3 : BL.C w A3 L.length L) (hL : L.length ≤ 5) (hp : ∀ p ∈ L, p.length ≤ 1000) (hB : ∀ p ∈ L, Byt p) :
    Calls Try.prog 55 #[.pointer (some ⟨g, 0, none⟩), .pointer (some ⟨gl, 0, none⟩), .pointer (some ⟨gr, 0, none⟩), .agg #[.int .i64 kd, .int .i64 la, .slice A2 b.length c2, .slice A3 L.length c3]] W (DoPost w g gx z i n0) := by
  by_cases h0 : kd = 0
  · subst h0
    exact do_0 h hsp inv hi hn0 la A2 c2 b C2 k2 hb hbl A3 L.length c3
  by_cases h1 : kd = 1
  · subst h1
    exact do_1 h hsp inv hi hn0 la A2 A3 b.length c2 L.length c3
  by_cases h2 : kd = 2
  · subst h2
    exact do_2 h hsp inv hi hn0 la A2 b.length c2 A3 c3 L C3 hL hp hB
  by_cases h3 : kd = 3
  · subst h3
    exact do_3 h hsp inv hi hn0 la A2 A3 b.length c2 L.length c3
  by_cases h4 : kd = 4
  · subst h4
    exact do_4 h hsp inv hi hn0 la hla A2 A3 b.length c2 L.length c3
  exact do_5 h hsp inv hi hn0 kd la A2 A3 b.length c2 L.length c3 ⟨h0, h1, h2, h3, h4⟩
end
end Go.Proofs.Ytmbemlpmfklddaa.Own
