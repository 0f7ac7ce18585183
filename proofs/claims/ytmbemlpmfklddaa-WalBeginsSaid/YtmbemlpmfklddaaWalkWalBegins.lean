/- The walk of WalBegins: whatever its arguments, it comes to true. -/
import Derived.Test.YtmbemlpmfklddaaBeg
import Derived.Test.YtmbemlpmfklddaaLog8
import Derived.Deep.DeepCutAuto
import Derived.Deep.CutBlock
namespace Go.Proofs.Ytmbemlpmfklddaa.Own
open Go.RowKit Go.Proofs.YtmbemlpmfklddaaW.PrintWords Go.Proofs.YtmbemlpmfklddaaW.PrintLast Go.Proofs.YtmbemlpmfklddaaW.PrintMore
/-- What WalBegins' end needs to know of the two openings. -/
structure EndI (x : Lg) (P N R : List (List Int)) (sr : Nat) (d1 d2 d3 : Dm) (g2 : Int) (a tl : Nat) (A : List Rec) (P' R' : List (List Int)) : Prop where
  q1 : d1.q.length ≤ 999000
  q2 : d2.q.length ≤ 1000000
  q3 : d3.q.length ≤ 999000
  b1 : ByD d1
  b3 : ByD d3
  g0 : g2 ≠ 0
  s1 : slotsG d1 = (g2, a)
  s3 : slotsG d3 = (g2, a)
  r1 : readR (areaB d1 a) = (A, tl, 0)
  r3 : readR (areaB d3 a) = (A, tl, 0)
  len : A.length ≤ 300000
  sp : splitR A [] [] = some (P', R')
  okP : P'.length ≤ 5 ∧ ∀ p ∈ P', p.length ≤ 1000
  okR : R'.length ≤ 1000 ∧ ∀ p ∈ R', p.length ≤ 1800
  pre : ∃ j, j ≤ R.length ∧ R' = R.take j
  cas : (x.stage = 4 ∧ g2 = x.gen + 1 ∧ P' = N ∧ R' = []) ∨ (P' = P ∧ sr ≤ R'.length ∧ R'.length ≤ R.length)
theorem begEnd {x : Lg} {d : Dm} {pb : List Int} {P N R : List (List Int)} {gone i : Nat} (h : BegI x d pb P N R gone i) (hi : i ≤ 1000) (last : Int) :
    ∃ (g2 : Int) (a tl : Nat) (A : List Rec) (P' R' : List (List Int)), EndI x P N R (x.sure - gone) (d.settle last) ((d.settle last).write (plc (d.settle last) a tl) (List.replicate (Sz (d.settle last) - tl) 0))
      (((d.settle last).write (plc (d.settle last) a tl) (List.replicate (Sz (d.settle last) - tl) 0)).settle last) g2 a tl A P' R' := by
  obtain ⟨g2, a, A, P', R', hs, hg, ha, hgd, hsp, hc⟩ := h.crash hi last
  have ho := Dm.ok_settle h.ok last
  obtain ⟨k1, k2⟩ := again ho rfl ha hs hgd last
  have hr := hgd.read
  have hlen : A.length ≤ 300000 := by
    have h1 := readR_few (areaB (d.settle last) a)
    have h2 := hgd.len
    rw [area_len ho ha] at h2
    have h3 := size_ok ho
    have h4 := ho.hi
    rw [hr] at h1
    simp only at h1
    omega
  have hR : ∃ j, j ≤ R.length ∧ R' = R.take j := by
    rcases hc with ⟨_, _, _, hR⟩ | ⟨_, j, _, hj, hR⟩
    · exact ⟨0, Nat.zero_le _, by rw [hR]; rfl⟩
    · exact ⟨j, hj, hR⟩
  have hRl : R.length ≤ 1000 := by have := h.all; have := h.alli; omega
  refine ⟨g2, a, (framesOf A).length, A, P', R', Nat.zero_le _, by simp [Dm.write, Dm.settle], Nat.zero_le _, h.byt.settle last, ((h.byt.settle last).write _ (Byt.zeros _)).settle last, by omega, hs, k1, hr, k2.read, hlen, hsp, ?_, ?_, hR, ?_⟩
  · rcases hc with ⟨_, _, hP, _⟩ | ⟨hP, _⟩
    · rw [hP]; exact h.okN
    · rw [hP]; exact h.okP
  · obtain ⟨j, hj, hRj⟩ := hR
    rw [hRj]
    exact ⟨by rw [List.length_take]; omega, fun p hp => h.okR p (List.mem_of_mem_take hp)⟩
  · rcases hc with hA | ⟨hP, j, h1, h2, hRj⟩
    · exact .inl hA
    · refine .inr ⟨hP, ?_, ?_⟩ <;> rw [hRj, List.length_take] <;> omega
set_option maxHeartbeats 32000000 in
set_option maxRecDepth 100000 in
theorem WalBegins_calls (A0 : Option Addr) (c0 : Nat) (l0 : List Op14) (last : Int) (w : World) (h0 : Kd.C k83 w A0 l0.length l0) (q0 : ∀ x ∈ l0, Q83 x) :
    Calls Try.prog 15 #[.slice A0 l0.length c0, .int .i64 last] w fun e w' => e = .returned (.bool true) ∧ Below w.heap.size w w' := by
  have hu83 := Try.underlying83
  have HH := Aside0.mk (Here.nil w)
  have H0 := Aside0.mk h0
  have Q0 := Aside0.mk q0
  have m0 := h0.2.1
  clear h0 q0
  go_enter Try.func15, Try.ntmps15
  go_wp2_with (first
    | (go_at_call 20; go_must (refine (New_here HH.out 3000 (by omega) (by omega)).mono ?_; rintro e w1 ⟨g, rfl, h⟩; have HD := Aside0.mk h; clear HH h))
    | (go_at_call 45; go_must (refine (Format_here HD.out (by simp [Dm.new])).mono ?_; rintro e w3 ⟨gl, rfl, h⟩; have HF := Aside0.mk ((WalS.fresh h rfl).addRaw 1 22); clear HD h)))
  have HJ0 := Aside0.mk (show BegJ w w3 gl g (.slice none 0 0) ⟨#[]⟩ ⟨#[]⟩ [] ⟨1, 0, 0, 0, 0, 0⟩ (Dm.new 3000).format [] [] [] [] 0 0 0 from ⟨BegI.start, Byt.nil, rfl, rfl, rfl, RowsOf.nil w, HF.out⟩)
  clear HF
  go_loopw [9, 10, 11, 12, 13, 14] (fun v9 v10 v11 v12 v13 v14 wr => ∃ (i gone sr : Nat) (SP SN : ByteArray) (rows : List (List Value)) (A11 : Option Addr) (c11 : Nat) (x : Lg) (d : Dm) (pb : List Int) (P N R : List (List Int)),
      v14 = .int .i64 i ∧ v9 = .string SP ∧ v10 = .string SN ∧ v11 = .slice A11 rows.length c11 ∧ v12 = .int .i64 gone ∧ v13 = .int .i64 sr ∧ i ≤ l0.length ∧ i ≤ 40 ∧ gone ≤ 40 ∧ sr ≤ 40 ∧
      Aside0 (BegJ w wr gl g (.slice A11 rows.length c11) SP SN rows x d pb P N R gone sr i)) (fun _ _ _ _ _ v14 _ => l0.length - (intOf v14).toNat)
  case atStart => exact ⟨0, 0, 0, ⟨#[]⟩, ⟨#[]⟩, [], none, 0, _, _, _, _, _, _, rfl, rfl, rfl, rfl, rfl, rfl, by omega, by omega, by omega, by omega, HJ0⟩
  case round =>
    clear HJ0
    obtain ⟨i, gone, sr, SP, SN, rows, A11, c11, x, d, pb, P, N, R, rfl, rfl, rfl, rfl, rfl, rfl, hi, hi40, hgone, hsr, HB⟩ := hrel
    have u1 : IntKind.i64.wrap ((i : Int) + 1) = (i : Int) + 1 := IntWalk.i64_in _ ⟨by omega, by omega⟩
    by_cases hlt : i < l0.length ∧ i < 40
    · obtain ⟨hl, h40⟩ := hlt
      have q1 : decide ((i : Int) < (l0.length : Int)) = true := decide_eq_true (by omega)
      have q2 : decide ((i : Int) < 40) = true := decide_eq_true (by omega)
      have LIM := Aside0.mk (HB.out.lim (by omega))
      obtain ⟨ad, kd, la, b, L, A2, c2, A3, c3, rfl, k2, hby, hLy, C2, C3, hO⟩ := op14_at H0.out Q0.out i hl
      have HO := Aside0.mk hO
      have HBY := Aside0.mk hby
      have HLY := Aside0.mk hLy
      have HC2 := Aside0.mk C2
      have HC3 := Aside0.mk C3
      obtain ⟨e0, e1, e2, e3⟩ := HO.out _ HB.out.mem.below
      have HC := Aside0.mk (HB.out.mem.newCells #[.int .i64 kd, .int .i64 la, .slice A2 b.length c2, .slice A3 L.length c3] 83)
      clear hO hby hLy C2 C3
      by_cases hgr : greatR b.length L
      · have hg : decide (greatR b.length L) = true := decide_eq_true hgr
        clear hgr
        go_wp2_with (first
          | (go_at_call 44; go_must (refine (Great_calls kd la A2 b.length c2 A3 c3 L _ (Kd.C_below HC3.out HC.out.below)).mono ?_; rw [hg]; rintro e w5 ⟨rfl, hb⟩; clear e0 e1 e2 e3; have HE := Aside0.mk (HC.out.then_ hb); clear HC hb))
          | (go_at_call 36; go_must (refine (alive14 _).mono ?_; rintro e w6 ⟨rfl, hb⟩; have HF := Aside0.mk (HE.out.then_ hb); clear HE hb)))
        go_ret
        exact ⟨rfl, HF.out.below⟩
      · have hg : decide (greatR b.length L) = false := decide_eq_false hgr
        obtain ⟨_, hL5, hL1000⟩ := great_no hgr
        have HL1000 := Aside0.mk hL1000
        clear hgr hL1000
        rcases (show kd = 0 ∨ kd = 1 ∨ kd = 2 ∨ kd = 3 ∨ ((kd == 0) = false ∧ (kd == 1) = false ∧ (kd == 2) = false ∧ (kd == 3) = false) by
          by_cases k0 : kd = 0
          · exact .inl k0
          · by_cases k1 : kd = 1
            · exact .inr (.inl k1)
            · by_cases k2 : kd = 2
              · exact .inr (.inr (.inl k2))
              · by_cases k3 : kd = 3
                · exact .inr (.inr (.inr (.inl k3)))
                · exact .inr (.inr (.inr (.inr ⟨beq_eq_false_iff_ne.mpr k0, beq_eq_false_iff_ne.mpr k1, beq_eq_false_iff_ne.mpr k2, beq_eq_false_iff_ne.mpr k3⟩)))) with rfl | rfl | rfl | rfl | ⟨p0, p1, p2, p3⟩
        · rcases HB.out.inv.app b HBY.out with ⟨he, hn⟩ | ⟨he, hn⟩
          · have HE0 := Aside0.mk he
            have HNI := Aside0.mk hn
            clear he hn
            obtain ⟨su, hsu⟩ : ∃ su, su = x.sure := ⟨_, rfl⟩
            have hs1 : gone ≤ su ∧ su ≤ 40 ∧ sr = su - gone := by
              have h1 := HB.out.inv.s0
              have h2 := HB.out.inv.s1
              have h3 := HB.out.inv.alli
              have h4 := HB.out.sr
              omega
            have u2 : IntKind.i64.wrap ((su : Int) - (gone : Int)) = (sr : Int) := by
              rw [show (su : Int) - (gone : Int) = (sr : Int) by omega]
              exact IntWalk.i64_in _ ⟨by omega, by omega⟩
            have HSU := Aside0.mk hsu
            have HSR := Aside0.mk hs1
            clear hsu hs1
            have hrl := LIM.out.2.2.2.2.2.2.2
            go_wp2_with (first
              | (go_at_call 44; go_must (refine (Great_calls 0 la A2 b.length c2 A3 c3 L _ (Kd.C_below HC3.out HC.out.below)).mono ?_; rw [hg]; rintro e w5 ⟨rfl, hb⟩; clear e0 e1 e2 e3; have HE := Aside0.mk (HC.out.then_ hb); obtain ⟨f0, f1, f2, f3⟩ := HE.out.op; clear HC hb))
              | (go_at_call 46; go_must (refine (Append_s HE.out LIM.out.1 A2 b.length c2 b rfl (Kd.C_below HC2.out HE.out.below) k2 LIM.out.2.1 LIM.out.2.2.1 LIM.out.2.2.2.1).mono ?_; rw [HE0.out]; rintro e w6 ⟨rfl, h⟩; clear f0 f1 f2 f3; obtain ⟨f0, f1, f2, f3⟩ := h.op; obtain ⟨vl, vb, hcn, hfr⟩ := h.swap.front; have HFR := Aside0.mk hfr; have HCN := Aside0.mk hcn; clear HE h hfr hcn))
              | (at_builtin; go_must (refine rows_app (HFR.out.alloc _) rfl (.tmp 81) (.tmp 84) rfl A2 b.length c2 _ rfl rfl (heap_at (by first | rfl | simp)) (by omega) ?_); intro v7 w8 h; obtain ⟨A7, c7, hv7, k7, _⟩ := h.raw; rw [List.length_append] at hv7; subst hv7; have HM := Aside0.mk ((WalS.back HCN.out h).swap.lose); clear HFR h)
              | (go_at_call 57; go_must (refine (Sure_s HM.out).mono ?_; rw [appL_sure, show x.sure = su from HSU.out.symm]; rintro e w9 ⟨rfl, rfl⟩)))
            go_roundw
            case rel =>
              have HN := Aside0.mk (show BegJ w _ gl g (.slice A7 (rows ++ [[Value.slice A2 b.length c2]]).length c7) SP SN (rows ++ [[Value.slice A2 b.length c2]]) (appL x d b) (appD x d b) pb P N (R ++ [b]) gone sr (i + 1) from ⟨HNI.out, HB.out.byt, HB.out.sp, HB.out.sn, by rw [appL_sure]; exact HB.out.sr, HB.out.told.snoc k2 HC2.out, by rw [List.length_append]; exact HM.out⟩)
              exact ⟨i + 1, gone, sr, SP, SN, rows ++ [[.slice A2 b.length c2]], A7, c7, _, _, pb, P, N, R ++ [b], by go_num, rfl, rfl, by rw [List.length_append]; rfl, rfl, rfl, by omega, by omega, by omega, by omega, HN⟩
            case measure => simp [intOf]; omega
          · obtain ⟨er, her⟩ : ∃ er, er = (appE x d b).2 := ⟨_, rfl⟩
            have qe : (er == 0) = false := beq_eq_false_iff_ne.mpr (by rw [her]; exact he)
            have HER := Aside0.mk her
            have HNI := Aside0.mk hn
            clear he hn her
            obtain ⟨su, hsu⟩ : ∃ su, su = x.sure := ⟨_, rfl⟩
            have hs1 : gone ≤ su ∧ su ≤ 40 ∧ sr = su - gone := by
              have h1 := HB.out.inv.s0
              have h2 := HB.out.inv.s1
              have h3 := HB.out.inv.alli
              have h4 := HB.out.sr
              omega
            have u2 : IntKind.i64.wrap ((su : Int) - (gone : Int)) = (sr : Int) := by
              rw [show (su : Int) - (gone : Int) = (sr : Int) by omega]
              exact IntWalk.i64_in _ ⟨by omega, by omega⟩
            have HSU := Aside0.mk hsu
            have HSR := Aside0.mk hs1
            clear hsu hs1
            go_wp2_with (first
              | (go_at_call 44; go_must (refine (Great_calls 0 la A2 b.length c2 A3 c3 L _ (Kd.C_below HC3.out HC.out.below)).mono ?_; rw [hg]; rintro e w5 ⟨rfl, hb⟩; clear e0 e1 e2 e3; have HE := Aside0.mk (HC.out.then_ hb); obtain ⟨f0, f1, f2, f3⟩ := HE.out.op; clear HC hb))
              | (go_at_call 46; go_must (refine (Append_s HE.out LIM.out.1 A2 b.length c2 b rfl (Kd.C_below HC2.out HE.out.below) k2 LIM.out.2.1 LIM.out.2.2.1 LIM.out.2.2.2.1).mono ?_; rw [← HER.out]; rintro e w6 ⟨rfl, h⟩; clear f0 f1 f2 f3; have HM := Aside0.mk h.lose; clear HE h))
              | (go_at_call 57; go_must (refine (Sure_s HM.out).mono ?_; rw [appL_sure, show x.sure = su from HSU.out.symm]; rintro e w9 ⟨rfl, rfl⟩)))
            go_roundw
            case rel =>
              have HN := Aside0.mk (show BegJ w _ gl g (.slice A11 rows.length c11) SP SN rows (appL x d b) (appD x d b) pb P N R gone sr (i + 1) from ⟨HNI.out, HB.out.byt, HB.out.sp, HB.out.sn, by rw [appL_sure]; exact HB.out.sr, HB.out.told, HM.out⟩)
              exact ⟨i + 1, gone, sr, SP, SN, rows, A11, c11, _, _, pb, P, N, R, by go_num, rfl, rfl, rfl, rfl, rfl, by omega, by omega, by omega, by omega, HN⟩
            case measure => simp [intOf]; omega
        · obtain ⟨su, hsu⟩ : ∃ su, su = x.all := ⟨_, rfl⟩
          obtain ⟨sr2, hsr2⟩ : ∃ sr2, sr2 = su - gone := ⟨_, rfl⟩
          have hs1 : gone ≤ su ∧ su ≤ 40 := by
            have h1 := HB.out.inv.s0
            have h2 := HB.out.inv.s1
            have h3 := HB.out.inv.alli
            omega
          have u2 : IntKind.i64.wrap ((su : Int) - (gone : Int)) = (sr2 : Int) := by
            rw [show (su : Int) - (gone : Int) = (sr2 : Int) by omega]
            exact IntWalk.i64_in _ ⟨by omega, by omega⟩
          have HSU := Aside0.mk hsu
          have HSR := Aside0.mk hsr2
          have hsr3 : sr2 ≤ 40 := by omega
          clear hsu hsr2
          go_wp2_with (first
            | (go_at_call 44; go_must (refine (Great_calls 1 la A2 b.length c2 A3 c3 L _ (Kd.C_below HC3.out HC.out.below)).mono ?_; rw [hg]; rintro e w5 ⟨rfl, hb⟩; clear e0 e1 e2 e3; have HE := Aside0.mk (HC.out.then_ hb); obtain ⟨f0, f1, f2, f3⟩ := HE.out.op; clear HC hb))
            | (go_at_call 47; go_must (refine (Sync_s HE.out LIM.out.1).mono ?_; rintro e w6 ⟨rfl, h⟩; clear f0 f1 f2 f3; have HK := Aside0.mk h; clear HE h))
            | (go_at_call 57; go_must (refine (Sure_s HK.out).mono ?_; rw [show ({ x with sure := x.all } : Lg).sure = su from HSU.out.symm]; rintro e w7 ⟨rfl, rfl⟩)))
          go_roundw
          case rel =>
            have HN := Aside0.mk (show BegJ w _ gl g (.slice A11 rows.length c11) SP SN rows { x with sure := x.all } d.flush pb P N R gone sr2 (i + 1) from ⟨HB.out.inv.sync, HB.out.byt, HB.out.sp, HB.out.sn, by rw [HSR.out, HSU.out], HB.out.told, HK.out.lose⟩)
            exact ⟨i + 1, gone, sr2, SP, SN, rows, A11, c11, _, _, pb, P, N, R, by go_num, rfl, rfl, rfl, rfl, rfl, by omega, by omega, by omega, by omega, HN⟩
          case measure => simp [intOf]; omega
        · rcases HB.out.inv.beg L ⟨hL5, HL1000.out⟩ HLY.out with ⟨he, hn⟩ | ⟨he, hn⟩
          · have HE0 := Aside0.mk he
            have HNI := Aside0.mk hn
            have HPY := Aside0.mk (show Byt (begP x d pb L) by unfold begP; rw [if_pos he]; exact Byt.frames 1 L HLY.out)
            obtain ⟨S, hS⟩ : ∃ S, S = strOfNums (joinB L) := ⟨_, rfl⟩
            have HS := Aside0.mk hS
            clear he hn hS
            obtain ⟨su, hsu⟩ : ∃ su, su = x.sure := ⟨_, rfl⟩
            have hs1 : gone ≤ su ∧ su ≤ 40 ∧ sr = su - gone := by
              have h1 := HB.out.inv.s0
              have h2 := HB.out.inv.s1
              have h3 := HB.out.inv.alli
              have h4 := HB.out.sr
              omega
            have u2 : IntKind.i64.wrap ((su : Int) - (gone : Int)) = (sr : Int) := by
              rw [show (su : Int) - (gone : Int) = (sr : Int) by omega]
              exact IntWalk.i64_in _ ⟨by omega, by omega⟩
            have HSU := Aside0.mk hsu
            have HSR := Aside0.mk hs1
            clear hsu hs1
            go_wp2_with (first
              | (go_at_call 44; go_must (refine (Great_calls 2 la A2 b.length c2 A3 c3 L _ (Kd.C_below HC3.out HC.out.below)).mono ?_; rw [hg]; rintro e w5 ⟨rfl, hb⟩; clear e0 e1 e2 e3; have HE := Aside0.mk (HC.out.then_ hb); obtain ⟨f0, f1, f2, f3⟩ := HE.out.op; clear HC hb))
              | (go_at_call 48; go_must (refine (Begin_s HE.out A3 L.length c3 L rfl (Kd.C_below HC3.out HE.out.below) (by omega) (fun p hp => by have h9 := HL1000.out p hp; omega)).mono ?_; rw [HE0.out]; rintro e w6 ⟨rfl, h⟩; clear f0 f1 f2 f3; obtain ⟨f0, f1, f2, f3⟩ := h.op; have HK := Aside0.mk h; clear HE h))
              | (go_at_call 52; go_must (refine (join_calls A3 c3 L _ (Kd.C_below HC3.out HK.out.below) (by omega) (fun p hp => by have h9 := HL1000.out p hp; omega)).mono ?_; rw [← HS.out]; rintro e w7 ⟨rfl, hb⟩; clear f0 f1 f2 f3; have HM := Aside0.mk (HK.out.then_ hb).lose; clear HK hb))
              | (go_at_call 57; go_must (refine (Sure_s HM.out).mono ?_; rw [begL_sure, show x.sure = su from HSU.out.symm]; rintro e w9 ⟨rfl, rfl⟩)))
            go_roundw
            case rel =>
              have HN := Aside0.mk (show BegJ w _ gl g (.slice A11 rows.length c11) SP S rows (begL x d L) d (begP x d pb L) P L R gone sr (i + 1) from ⟨HNI.out, HPY.out, HB.out.sp, HS.out, by rw [begL_sure]; exact HB.out.sr, HB.out.told, HM.out⟩)
              exact ⟨i + 1, gone, sr, SP, S, rows, A11, c11, _, _, _, P, L, R, by go_num, rfl, rfl, rfl, rfl, rfl, by omega, by omega, by omega, by omega, HN⟩
            case measure => simp [intOf]; omega
          · obtain ⟨er, her⟩ : ∃ er, er = begE x d L := ⟨_, rfl⟩
            have qe : (er == 0) = false := beq_eq_false_iff_ne.mpr (by rw [her]; exact he)
            have HER := Aside0.mk her
            have HNI := Aside0.mk hn
            have HPY := Aside0.mk (show Byt (begP x d pb L) by unfold begP; rw [if_neg he]; exact HB.out.byt)
            clear he hn her
            obtain ⟨su, hsu⟩ : ∃ su, su = x.sure := ⟨_, rfl⟩
            have hs1 : gone ≤ su ∧ su ≤ 40 ∧ sr = su - gone := by
              have h1 := HB.out.inv.s0
              have h2 := HB.out.inv.s1
              have h3 := HB.out.inv.alli
              have h4 := HB.out.sr
              omega
            have u2 : IntKind.i64.wrap ((su : Int) - (gone : Int)) = (sr : Int) := by
              rw [show (su : Int) - (gone : Int) = (sr : Int) by omega]
              exact IntWalk.i64_in _ ⟨by omega, by omega⟩
            have HSU := Aside0.mk hsu
            have HSR := Aside0.mk hs1
            clear hsu hs1
            go_wp2_with (first
              | (go_at_call 44; go_must (refine (Great_calls 2 la A2 b.length c2 A3 c3 L _ (Kd.C_below HC3.out HC.out.below)).mono ?_; rw [hg]; rintro e w5 ⟨rfl, hb⟩; clear e0 e1 e2 e3; have HE := Aside0.mk (HC.out.then_ hb); obtain ⟨f0, f1, f2, f3⟩ := HE.out.op; clear HC hb))
              | (go_at_call 48; go_must (refine (Begin_s HE.out A3 L.length c3 L rfl (Kd.C_below HC3.out HE.out.below) (by omega) (fun p hp => by have h9 := HL1000.out p hp; omega)).mono ?_; rw [← HER.out]; rintro e w6 ⟨rfl, h⟩; clear f0 f1 f2 f3; have HM := Aside0.mk h.lose; clear HE h))
              | (go_at_call 57; go_must (refine (Sure_s HM.out).mono ?_; rw [begL_sure, show x.sure = su from HSU.out.symm]; rintro e w9 ⟨rfl, rfl⟩)))
            go_roundw
            case rel =>
              have HN := Aside0.mk (show BegJ w _ gl g (.slice A11 rows.length c11) SP SN rows (begL x d L) d (begP x d pb L) P N R gone sr (i + 1) from ⟨HNI.out, HPY.out, HB.out.sp, HB.out.sn, by rw [begL_sure]; exact HB.out.sr, HB.out.told, HM.out⟩)
              exact ⟨i + 1, gone, sr, SP, SN, rows, A11, c11, _, _, _, P, N, R, by go_num, rfl, rfl, rfl, rfl, rfl, by omega, by omega, by omega, by omega, HN⟩
            case measure => simp [intOf]; omega
        · rcases (show (x.stage ≠ 4 ∧ stepV x = (0, 4)) ∨ (x.stage ≠ 4 ∧ ∃ k : Int, k ≠ 5 ∧ stepV x = (k, 0)) ∨ (x.stage = 4 ∧ stepV x = (5, 0)) by
            unfold stepV
            by_cases c0 : x.stage = 0
            · exact .inl ⟨by omega, if_pos c0⟩
            · rw [if_neg c0]
              by_cases c4 : x.stage = 4
              · exact .inr (.inr ⟨c4, by rw [c4]; rfl⟩)
              · refine .inr (.inl ⟨c4, _, ?_, rfl⟩)
                have := HB.out.inv.stage
                omega) with ⟨h4, hv⟩ | ⟨h4, k, hk5, hv⟩ | ⟨h4, hv⟩
          · have HSV := Aside0.mk hv
            have HNI := Aside0.mk (HB.out.inv.step h4 HB.out.byt)
            clear hv h4
            obtain ⟨su, hsu⟩ : ∃ su, su = x.sure := ⟨_, rfl⟩
            have hs1 : gone ≤ su ∧ su ≤ 40 ∧ sr = su - gone := by
              have h1 := HB.out.inv.s0
              have h2 := HB.out.inv.s1
              have h3 := HB.out.inv.alli
              have h4 := HB.out.sr
              omega
            have u2 : IntKind.i64.wrap ((su : Int) - (gone : Int)) = (sr : Int) := by
              rw [show (su : Int) - (gone : Int) = (sr : Int) by omega]
              exact IntWalk.i64_in _ ⟨by omega, by omega⟩
            have HSU := Aside0.mk hsu
            have HSR := Aside0.mk hs1
            clear hsu hs1
            go_wp2_with (first
              | (go_at_call 44; go_must (refine (Great_calls 3 la A2 b.length c2 A3 c3 L _ (Kd.C_below HC3.out HC.out.below)).mono ?_; rw [hg]; rintro e w5 ⟨rfl, hb⟩; clear e0 e1 e2 e3; have HE := Aside0.mk (HC.out.then_ hb); obtain ⟨f0, f1, f2, f3⟩ := HE.out.op; clear HC hb))
              | (go_at_call 49; go_must (refine (Step_s HE.out LIM.out.1 LIM.out.2.2.1 LIM.out.2.2.2.2.1 LIM.out.2.2.2.2.2.1 LIM.out.2.2.2.2.2.2.1).mono ?_; rw [HSV.out]; rintro e w6 ⟨rfl, h⟩; clear f0 f1 f2 f3; have HM := Aside0.mk h.lose; clear HE h))
              | (go_at_call 57; go_must (refine (Sure_s HM.out).mono ?_; rw [(stepL_sure x pb).1, show x.sure = su from HSU.out.symm]; rintro e w9 ⟨rfl, rfl⟩)))
            go_roundw
            case rel =>
              have HN := Aside0.mk (show BegJ w _ gl g (.slice A11 rows.length c11) SP SN rows (stepL x pb) (stepD x d pb) pb P N R gone sr (i + 1) from ⟨HNI.out, HB.out.byt, HB.out.sp, HB.out.sn, by rw [(stepL_sure x pb).1]; exact HB.out.sr, HB.out.told, HM.out⟩)
              exact ⟨i + 1, gone, sr, SP, SN, rows, A11, c11, _, _, _, P, N, R, by go_num, rfl, rfl, rfl, rfl, rfl, by omega, by omega, by omega, by omega, HN⟩
            case measure => simp [intOf]; omega
          · have HSV := Aside0.mk hv
            have HNI := Aside0.mk (HB.out.inv.step h4 HB.out.byt)
            clear hv h4
            have qk : (k == 5) = false := beq_eq_false_iff_ne.mpr hk5
            obtain ⟨su, hsu⟩ : ∃ su, su = x.sure := ⟨_, rfl⟩
            have hs1 : gone ≤ su ∧ su ≤ 40 ∧ sr = su - gone := by
              have h1 := HB.out.inv.s0
              have h2 := HB.out.inv.s1
              have h3 := HB.out.inv.alli
              have h4 := HB.out.sr
              omega
            have u2 : IntKind.i64.wrap ((su : Int) - (gone : Int)) = (sr : Int) := by
              rw [show (su : Int) - (gone : Int) = (sr : Int) by omega]
              exact IntWalk.i64_in _ ⟨by omega, by omega⟩
            have HSU := Aside0.mk hsu
            have HSR := Aside0.mk hs1
            clear hsu hs1
            go_wp2_with (first
              | (go_at_call 44; go_must (refine (Great_calls 3 la A2 b.length c2 A3 c3 L _ (Kd.C_below HC3.out HC.out.below)).mono ?_; rw [hg]; rintro e w5 ⟨rfl, hb⟩; clear e0 e1 e2 e3; have HE := Aside0.mk (HC.out.then_ hb); obtain ⟨f0, f1, f2, f3⟩ := HE.out.op; clear HC hb))
              | (go_at_call 49; go_must (refine (Step_s HE.out LIM.out.1 LIM.out.2.2.1 LIM.out.2.2.2.2.1 LIM.out.2.2.2.2.2.1 LIM.out.2.2.2.2.2.2.1).mono ?_; rw [HSV.out]; rintro e w6 ⟨rfl, h⟩; clear f0 f1 f2 f3; have HM := Aside0.mk h.lose; clear HE h))
              | (go_at_call 57; go_must (refine (Sure_s HM.out).mono ?_; rw [(stepL_sure x pb).1, show x.sure = su from HSU.out.symm]; rintro e w9 ⟨rfl, rfl⟩)))
            go_roundw
            case rel =>
              have HN := Aside0.mk (show BegJ w _ gl g (.slice A11 rows.length c11) SP SN rows (stepL x pb) (stepD x d pb) pb P N R gone sr (i + 1) from ⟨HNI.out, HB.out.byt, HB.out.sp, HB.out.sn, by rw [(stepL_sure x pb).1]; exact HB.out.sr, HB.out.told, HM.out⟩)
              exact ⟨i + 1, gone, sr, SP, SN, rows, A11, c11, _, _, _, P, N, R, by go_num, rfl, rfl, rfl, rfl, rfl, by omega, by omega, by omega, by omega, HN⟩
            case measure => simp [intOf]; omega
          · have HSV := Aside0.mk hv
            have HNI := Aside0.mk (HB.out.inv.wipe h4 HB.out.byt)
            obtain ⟨su, hsu⟩ : ∃ su, su = x.all := ⟨_, rfl⟩
            have hs1 : su ≤ 40 ∧ x.sure = su := by
              have h1 := HB.out.inv.s2 (by omega)
              have h3 := HB.out.inv.alli
              omega
            have hsu40 : su ≤ 40 := hs1.1
            have HSS := Aside0.mk hs1.2
            have HSU := Aside0.mk hsu
            clear hv h4 hs1 hsu
            go_wp2_with (first
              | (go_at_call 44; go_must (refine (Great_calls 3 la A2 b.length c2 A3 c3 L _ (Kd.C_below HC3.out HC.out.below)).mono ?_; rw [hg]; rintro e w5 ⟨rfl, hb⟩; clear e0 e1 e2 e3; have HE := Aside0.mk (HC.out.then_ hb); obtain ⟨f0, f1, f2, f3⟩ := HE.out.op; clear HC hb))
              | (go_at_call 49; go_must (refine (Step_s HE.out LIM.out.1 LIM.out.2.2.1 LIM.out.2.2.2.2.1 LIM.out.2.2.2.2.2.1 LIM.out.2.2.2.2.2.2.1).mono ?_; rw [HSV.out]; rintro e w6 ⟨rfl, h⟩; clear f0 f1 f2 f3; have HM := Aside0.mk (h.lose.lose.addRaw 1 22); clear HE h))
              | (go_at_call 56; go_must (refine (All_s HM.out).mono ?_; rw [(stepL_sure x pb).2, show x.all = su from HSU.out.symm]; rintro e w8 ⟨rfl, rfl⟩))
              | (go_at_call 57; go_must (refine (Sure_s HM.out).mono ?_; rw [(stepL_sure x pb).1, HSS.out]; rintro e w9 ⟨rfl, rfl⟩)))
            go_roundw
            case rel =>
              have HN := Aside0.mk (show BegJ w _ gl g (.slice none 0 0) SN SN [] (stepL x pb) (stepD x d pb) pb N N [] su 0 (i + 1) from ⟨by rw [HSU.out]; exact HNI.out, HB.out.byt, HB.out.sn, HB.out.sn, by rw [(stepL_sure x pb).1, HSS.out]; omega, RowsOf.nil w, HM.out⟩)
              exact ⟨i + 1, su, 0, SN, SN, [], none, 0, _, _, _, N, N, [], by go_num, rfl, rfl, rfl, rfl, by first | rfl | simp, by omega, by omega, by omega, by omega, HN⟩
            case measure => simp [intOf]; omega
        · obtain ⟨su, hsu⟩ : ∃ su, su = x.sure := ⟨_, rfl⟩
          have hs1 : gone ≤ su ∧ su ≤ 40 ∧ sr = su - gone := by
            have h1 := HB.out.inv.s0
            have h2 := HB.out.inv.s1
            have h3 := HB.out.inv.alli
            have h4 := HB.out.sr
            omega
          have u2 : IntKind.i64.wrap ((su : Int) - (gone : Int)) = (sr : Int) := by
            rw [show (su : Int) - (gone : Int) = (sr : Int) by omega]
            exact IntWalk.i64_in _ ⟨by omega, by omega⟩
          have HSU := Aside0.mk hsu
          have HSR := Aside0.mk hs1
          clear hsu hs1
          go_wp2_with (first
            | (go_at_call 44; go_must (refine (Great_calls kd la A2 b.length c2 A3 c3 L _ (Kd.C_below HC3.out HC.out.below)).mono ?_; rw [hg]; rintro e w5 ⟨rfl, hb⟩; clear e0 e1 e2 e3; have HE := Aside0.mk (HC.out.then_ hb); obtain ⟨f0, f1, f2, f3⟩ := HE.out.op; clear HC hb))
            | (go_at_call 57; go_must (refine (Sure_s HE.out).mono ?_; rw [show x.sure = su from HSU.out.symm]; rintro e w9 ⟨rfl, rfl⟩)))
          go_roundw
          case rel =>
            have HN := Aside0.mk (show BegJ w _ gl g (.slice A11 rows.length c11) SP SN rows x d pb P N R gone sr (i + 1) from ⟨HB.out.inv.more, HB.out.byt, HB.out.sp, HB.out.sn, HB.out.sr, HB.out.told, HE.out.lose⟩)
            exact ⟨i + 1, gone, sr, SP, SN, rows, A11, c11, _, _, pb, P, N, R, by go_num, rfl, rfl, rfl, rfl, rfl, by omega, by omega, by omega, by omega, HN⟩
          case measure => simp [intOf]; omega
    · have hw : (decide ((i : Int) < (l0.length : Int)) = false ∧ ¬ i < l0.length) ∨ (decide ((i : Int) < (l0.length : Int)) = true ∧ i < l0.length ∧ decide ((i : Int) < 40) = false ∧ ¬ i < 40) := by
        by_cases h1 : i < l0.length
        · exact .inr ⟨decide_eq_true (by omega), h1, decide_eq_false (by omega), by omega⟩
        · exact .inl ⟨decide_eq_false (by omega), h1⟩
      have hen := begEnd HB.out.inv (by omega) last
      rw [← HB.out.sr] at hen
      have HEN := Aside0.mk hen
      clear hen
      obtain ⟨g2, a, tl, A, P', R', ho1⟩ := HEN.out
      have HO1 := Aside0.mk ho1
      obtain ⟨vl, vb, _, hdk⟩ := HB.out.mem.disk
      have HK := Aside0.mk hdk
      have HQL := Aside0.mk (HB.out.lim (by omega)).1
      obtain ⟨d1, hd1⟩ : ∃ d1, d1 = d.settle last := ⟨_, rfl⟩
      obtain ⟨d2, hd2⟩ : ∃ d2, d2 = d1.write (plc d1 a tl) (List.replicate (Sz d1 - tl) 0) := ⟨_, rfl⟩
      obtain ⟨d3, hd3⟩ : ∃ d3, d3 = d2.settle last := ⟨_, rfl⟩
      rw [← hd1, ← hd2, ← hd3] at HO1
      have HD1 := Aside0.mk hd1
      have HD2 := Aside0.mk hd2
      have HD3 := Aside0.mk hd3
      have HGG := Aside0.mk (show IntKind.u32.wrap (x.gen + 1) = x.gen + 1 from IntWalk.u32_in _ ⟨by have := HB.out.inv.g0; omega, by have := HB.out.inv.g1; omega⟩)
      clear hlt u1 ho1 hdk hd1 hd2 hd3 HEN
      rcases hw with ⟨q1, q2⟩ | ⟨q1, q2, q3, q4⟩
      all_goals
        go_upto_region 35 with (first
          | (go_at_call 22; go_must (refine (Crash_here HK.out HQL.out last).mono ?_; rw [← HD1.out]; rintro e w4 ⟨rfl, h⟩; have HL := Aside0.mk h; clear HK h))
          | (go_at_call 40; go_must (refine (Open_yes HL.out HO1.out.q1 HO1.out.b1 g2 a tl A P' R' HO1.out.s1 HO1.out.g0 HO1.out.r1 HO1.out.len HO1.out.sp).mono ?_; rw [← HD2.out]; rintro e w5 ⟨gl2, vp, vr, rfl, h⟩; obtain ⟨A5, c5, A6, c6, rfl, rfl, K5, K6⟩ := (Here.nth h 2 (by simp)).two; have HK5 := Aside0.mk K5; have HK6 := Aside0.mk K6; have HM := Aside0.mk h; clear HL h K5 K6)))
        obtain ⟨S', hS'⟩ : ∃ S', S' = strOfNums (joinB P') := ⟨_, rfl⟩
        have HSP' := Aside0.mk hS'
        obtain ⟨Ls, hLs⟩ : ∃ Ls : List Thing, Ls = LogT gl2 g ⟨g2, a, tl, 0, 0, 0⟩ (.slice none 0 0) :: DiskT g d2 :: TwoT (.slice A5 P'.length c5) P' (.slice A6 R'.length c6) R' :: LogT gl g x vl :: BytesT vb pb :: RawT 1 22 (.slice A11 rows.length c11) rows :: [] := ⟨_, rfl⟩
        have HLS := Aside0.mk hLs
        have HM' := Aside0.mk (show Here w w5 Ls by rw [hLs]; exact HM.out)
        clear hS' hLs q1 q2
        go_cut [24] from 136 to 157 (fun v24 wx => ∃ tb : Bool, v24 = .bool tb ∧ Aside0 (tb = true ∨ (P' = P ∧ sr ≤ R'.length ∧ R'.length ≤ R.length)) ∧ Aside0 (Here w wx Ls) ∧ Aside0 (Below w5.heap.size w5 wx))
        case first =>
          have u5 : IntKind.u32.wrap (x.gen + 1) = x.gen + 1 := HGG.out
          have HBS := Aside0.mk (Below.refl w5.heap.size w5)
          have t2 : True := trivial
          have t3 : True := trivial
          have HT0 := Aside0.mk HO1.out.cas
          by_cases b1 : x.stage = 4
          · have q5 : ((x.stage : Int) == 4) = true := beq_iff_eq.mpr (by omega)
            clear b1
            cases b2 : (S'.toList == SN.toList)
            · have HT := Aside0.mk (show P' = P ∧ sr ≤ R'.length ∧ R'.length ≤ R.length by
                rcases HT0.out with ⟨k1, k2, k3, k4⟩ | hB
                · rw [HSP'.out, HB.out.sn, k3, beq_self_eq_true] at b2
                  cases b2
                · exact hB)
              go_wp2_with (first
                  | (go_at_call 51; go_must (refine (Stage_here (Here.nth HM.out 3 (by simp))).mono ?_; rintro e w6 ⟨rfl, rfl⟩))
                  | (go_at_call 52; go_must (refine (join_calls A5 c5 P' _ HK5.out (Nat.le_trans HO1.out.okP.1 (by omega)) (fun p hp => Nat.le_trans (HO1.out.okP.2 p hp) (by omega))).mono ?_; rw [← HSP'.out]; rintro e w6 ⟨rfl, hb⟩; have HX := Aside0.mk (HM'.out.then_ hb); have HXL := Aside0.mk (HM.out.then_ hb); have HW := Aside0.mk hb; clear hb)))
              go_meet
              exact ⟨false, rfl, ⟨.inr HT.out⟩, HX, HW⟩
            · by_cases b3 : R'.length = 0
              · have q7 : ((R'.length : Int) == 0) = true := beq_iff_eq.mpr (by omega)
                clear b3
                by_cases b4 : g2 = x.gen + 1
                · have q8 : (g2 == x.gen + 1) = true := beq_iff_eq.mpr b4
                  clear b4
                  go_wp2_with (first
                      | (go_at_call 51; go_must (refine (Stage_here (Here.nth HM.out 3 (by simp))).mono ?_; rintro e w6 ⟨rfl, rfl⟩))
                      | (go_at_call 52; go_must (refine (join_calls A5 c5 P' _ HK5.out (Nat.le_trans HO1.out.okP.1 (by omega)) (fun p hp => Nat.le_trans (HO1.out.okP.2 p hp) (by omega))).mono ?_; rw [← HSP'.out]; rintro e w6 ⟨rfl, hb⟩; have HX := Aside0.mk (HM'.out.then_ hb); have HXL := Aside0.mk (HM.out.then_ hb); have HW := Aside0.mk hb; clear hb))
                      | (go_at_call 58; have _t := t2; clear t2; go_must (refine (Gen_here HXL.out).mono ?_; rintro e w7 ⟨rfl, rfl⟩))
                      | (go_at_call 58; have _t := t3; go_must (refine (Gen_here (Here.nth HXL.out 3 (by simp))).mono ?_; rintro e w8 ⟨rfl, rfl⟩)))
                  go_meet
                  exact ⟨true, rfl, ⟨.inl rfl⟩, HX, HW⟩
                · have q8 : (g2 == x.gen + 1) = false := beq_eq_false_iff_ne.mpr b4
                  have HT := Aside0.mk (show P' = P ∧ sr ≤ R'.length ∧ R'.length ≤ R.length by
                    rcases HT0.out with ⟨k1, k2, k3, k4⟩ | hB
                    · exact absurd k2 b4
                    · exact hB)
                  clear b4
                  go_wp2_with (first
                      | (go_at_call 51; go_must (refine (Stage_here (Here.nth HM.out 3 (by simp))).mono ?_; rintro e w6 ⟨rfl, rfl⟩))
                      | (go_at_call 52; go_must (refine (join_calls A5 c5 P' _ HK5.out (Nat.le_trans HO1.out.okP.1 (by omega)) (fun p hp => Nat.le_trans (HO1.out.okP.2 p hp) (by omega))).mono ?_; rw [← HSP'.out]; rintro e w6 ⟨rfl, hb⟩; have HX := Aside0.mk (HM'.out.then_ hb); have HXL := Aside0.mk (HM.out.then_ hb); have HW := Aside0.mk hb; clear hb))
                      | (go_at_call 58; have _t := t2; clear t2; go_must (refine (Gen_here HXL.out).mono ?_; rintro e w7 ⟨rfl, rfl⟩))
                      | (go_at_call 58; have _t := t3; go_must (refine (Gen_here (Here.nth HXL.out 3 (by simp))).mono ?_; rintro e w8 ⟨rfl, rfl⟩)))
                  go_meet
                  exact ⟨false, rfl, ⟨.inr HT.out⟩, HX, HW⟩
              · have q7 : ((R'.length : Int) == 0) = false := beq_eq_false_iff_ne.mpr (by omega)
                have HT := Aside0.mk (show P' = P ∧ sr ≤ R'.length ∧ R'.length ≤ R.length by
                  rcases HT0.out with ⟨k1, k2, k3, k4⟩ | hB
                  · rw [k4] at b3; exact absurd rfl b3
                  · exact hB)
                clear b3
                go_wp2_with (first
                    | (go_at_call 51; go_must (refine (Stage_here (Here.nth HM.out 3 (by simp))).mono ?_; rintro e w6 ⟨rfl, rfl⟩))
                    | (go_at_call 52; go_must (refine (join_calls A5 c5 P' _ HK5.out (Nat.le_trans HO1.out.okP.1 (by omega)) (fun p hp => Nat.le_trans (HO1.out.okP.2 p hp) (by omega))).mono ?_; rw [← HSP'.out]; rintro e w6 ⟨rfl, hb⟩; have HX := Aside0.mk (HM'.out.then_ hb); have HXL := Aside0.mk (HM.out.then_ hb); have HW := Aside0.mk hb; clear hb)))
                go_meet
                exact ⟨false, rfl, ⟨.inr HT.out⟩, HX, HW⟩
          · have q5 : ((x.stage : Int) == 4) = false := beq_eq_false_iff_ne.mpr (by omega)
            have HT := Aside0.mk (show P' = P ∧ sr ≤ R'.length ∧ R'.length ≤ R.length by
              rcases HT0.out with ⟨k1, k2, k3, k4⟩ | hB
              · exact absurd k1 b1
              · exact hB)
            clear b1
            go_wp2_with (first
                | (go_at_call 51; go_must (refine (Stage_here (Here.nth HM.out 3 (by simp))).mono ?_; rintro e w6 ⟨rfl, rfl⟩)))
            go_meet
            exact ⟨false, rfl, ⟨.inr HT.out⟩, HM', HBS⟩
        case rest =>
          obtain ⟨tb, rfl, HT, HX, HW⟩ := hcut
          clear HM HM'
          go_upto_region 36 with fail
          go_cut [178] from 158 to 177 (fun v178 wx => v178 = .bool false ∧ Aside0 (Here w wx Ls) ∧ Aside0 (Below w5.heap.size w5 wx))
          case first =>
            cases tb
            · have HT2 := Aside0.mk (show P' = P ∧ sr ≤ R'.length ∧ R'.length ≤ R.length by
                rcases HT.out with h | h
                · cases h
                · exact h)
              have hrl : rows.length = R.length := HB.out.told.1
              have q5 : decide ((R'.length : Int) < (sr : Int)) = false := decide_eq_false (by have h9 := HT2.out; omega)
              have q6 : decide ((rows.length : Int) < (R'.length : Int)) = false := decide_eq_false (by have h9 := HT2.out; omega)
              have q5' : ¬ R'.length < sr := by have h9 := HT2.out; omega
              have q6' : ¬ rows.length < R'.length := by have h9 := HT2.out; omega
              have q7 : (SP.toList == SP.toList) = true := beq_self_eq_true _
              have HSQ := Aside0.mk (show strOfNums (joinB P') = SP by rw [HT2.out.1]; exact HB.out.sp.symm)
              clear hrl
              go_wp2_with (go_at_call 52; go_must (refine (join_calls A5 c5 P' _ (Kd.C_below HK5.out HW.out) (Nat.le_trans HO1.out.okP.1 (by omega)) (fun p hp => Nat.le_trans (HO1.out.okP.2 p hp) (by omega))).mono ?_; rw [HSQ.out]; rintro e w6 ⟨rfl, hb⟩; have HX2 := Aside0.mk (HX.out.then_ hb); have HW2 := Aside0.mk (below_step HW.out hb); clear hb))
              go_meet
              exact ⟨rfl, HX2, HW2⟩
            · go_wp2_with fail
              go_meet
              exact ⟨rfl, HX, HW⟩
          case rest =>
            obtain ⟨rfl, HX2, HW2⟩ := hcut
            clear HT HX HW
            obtain ⟨wo, hwo⟩ : ∃ wo, wo = wr := ⟨_, rfl⟩
            subst hwo
            have HTD := Aside0.mk HB.out.told
            obtain ⟨j, hj, hRj⟩ := HO1.out.pre
            have hjl : R'.length = j := by rw [hRj, List.length_take]; omega
            have HRJ := Aside0.mk hRj
            have HJL := Aside0.mk hjl
            have hr1000 : R'.length ≤ 1000 := HO1.out.okR.1
            have hrl : R'.length ≤ rows.length := by rw [HTD.out.1]; omega
            clear hRj hjl hj HB
            go_wp2_with fail
            go_loopw [25] (fun v25 wr => ∃ (k : Nat), v25 = .int .i64 k ∧ k ≤ R'.length ∧ Aside0 (Here w wr Ls) ∧ Aside0 (Below w5.heap.size w5 wr)) (fun v25 _ => R'.length - (intOf v25).toNat)
            case atStart => exact ⟨0, rfl, by omega, HX2, HW2⟩
            case round =>
              clear HX2 HW2
              obtain ⟨k, rfl, hk, HX, HW⟩ := hrel
              have hxl := HX.out
              rw [HLS.out] at hxl
              have HXL := Aside0.mk hxl
              clear hxl
              by_cases hlt : k < R'.length
              · have q9 : decide ((k : Int) < (R'.length : Int)) = true := decide_eq_true (by omega)
                have u9 : IntKind.i64.wrap ((k : Int) + 1) = (k : Int) + 1 := IntWalk.i64_in _ ⟨by omega, by omega⟩
                have hkr : k < rows.length := by omega
                obtain ⟨ad6, A7, c7, hA6, e6, k7, C7⟩ := atRows (Kd.C_below HK6.out HW.out) k hlt rfl
                have hRk : R[k]? = some R'[k] := by
                  have h9 : R'[k]? = some R'[k] := List.getElem?_eq_getElem hlt
                  have h10 : R'[k]? = R[k]? := by
                    rw [HRJ.out, List.getElem?_take_of_lt (by have := HJL.out; omega)]
                  exact h10.symm.trans h9
                obtain ⟨A8, c8, hr8, k8, C8⟩ := HTD.out.2 k R'[k] hRk
                obtain ⟨ad11, hA11, e11⟩ := atRaw1 (raw_of (Here.nth HXL.out 5 (by simp))) hr8
                obtain ⟨S, hS⟩ : ∃ S, S = strOfNums R'[k] := ⟨_, rfl⟩
                have z7 : Sem.run Try.prog (convert 22 9 (.slice A7 R'[k].length c7)) wr.drew = .ok (.string S) wr.drew := by
                  rw [hS]
                  exact Kd.C_string Try.underlying22 Try.underlying5 Try.underlying9 (Kd.C_below C7 (Below.refl _ _).drew)
                have z8 : Sem.run Try.prog (convert 22 9 (.slice A8 R'[k].length c8)) wr.drew = .ok (.string S) wr.drew := by
                  rw [hS]
                  exact Kd.C_string Try.underlying22 Try.underlying5 Try.underlying9 (Kd.C_below C8 HX.out.drew.below)
                clear hRk hr8 C7 C8 hS
                generalize R'[k].length = n7 at e6 e11 z7 z8 k7 k8
                subst hA6 hA11
                have qS : (S.toList == S.toList) = true := beq_self_eq_true _
                go_wp2_with fail
                go_region
                all_goals
                  go_wp2_with fail
                  go_roundw
                  case rel => exact ⟨k + 1, by go_num, by omega, ⟨HX.out.drew⟩, ⟨HW.out.drew⟩⟩
                  case measure => simp [intOf]; omega
              · have q9 : decide ((k : Int) < (R'.length : Int)) = false := decide_eq_false (by omega)
                obtain ⟨T', hT'⟩ : ∃ T', T' = strOfNums (joinB R') := ⟨_, rfl⟩
                have HTT := Aside0.mk hT'
                have qS : (S'.toList == S'.toList) = true := beq_self_eq_true _
                have qT : (T'.toList == T'.toList) = true := beq_self_eq_true _
                have t5 : True := trivial
                have t6 : True := trivial
                have t7 : True := trivial
                have t8 : True := trivial
                clear hT'
                go_wp2_with (first
                  | (go_at_call 22; go_must (refine (Crash_here (Here.nth HXL.out 1 (by simp)) HO1.out.q2 last).mono ?_; rw [← HD3.out]; rintro e w7 ⟨rfl, h⟩; have HZ := Aside0.mk h; clear h))
                  | (go_at_call 40; go_must (refine (Open_yes HZ.out HO1.out.q3 HO1.out.b3 g2 a tl A P' R' HO1.out.s3 HO1.out.g0 HO1.out.r3 HO1.out.len HO1.out.sp).mono ?_; rintro e w8 ⟨gl3, vp2, vr2, rfl, h⟩; obtain ⟨A9, c9, A10, c10, rfl, rfl, K9, K10⟩ := (Here.nth h 2 (by simp)).two; obtain ⟨_, _, _, _, e5, e6, K5, K6⟩ := (Here.nth h 4 (by simp)).two; injection e5 with e5 _ _; injection e6 with e6 _ _; subst e5 e6; have HKK := Aside0.mk (And.intro K9 (And.intro K10 (And.intro K5 K6))); have HY := Aside0.mk h; clear h HZ K9 K10 K5 K6))
                  | (go_at_call 36; go_must (refine (alive14 _).mono ?_; rintro e w9 ⟨rfl, hb⟩; have HN9 := Aside0.mk hb; clear hb))
                  | (go_at_call 52; have _t := t5; clear t5; go_must (refine (join_calls A9 c9 P' _ (Kd.C_below HKK.out.1 HN9.out) (Nat.le_trans HO1.out.okP.1 (by omega)) (fun p hp => Nat.le_trans (HO1.out.okP.2 p hp) (by omega))).mono ?_; rw [← HSP'.out]; rintro e w10 ⟨rfl, hb⟩; have HN10 := Aside0.mk (below_step HN9.out hb); clear hb HN9))
                  | (go_at_call 52; have _t := t6; clear t6; go_must (refine (join_calls _ _ P' _ (Kd.C_below HKK.out.2.2.1 HN10.out) (Nat.le_trans HO1.out.okP.1 (by omega)) (fun p hp => Nat.le_trans (HO1.out.okP.2 p hp) (by omega))).mono ?_; rw [← HSP'.out]; rintro e w11 ⟨rfl, hb⟩; have HN11 := Aside0.mk (below_step HN10.out hb); clear hb HN10))
                  | (go_at_call 52; have _t := t7; clear t7; go_must (refine (join_calls A10 c10 R' _ (Kd.C_below HKK.out.2.1 HN11.out) HO1.out.okR.1 (fun p hp => Nat.le_trans (HO1.out.okR.2 p hp) (by omega))).mono ?_; rw [← HTT.out]; rintro e w12 ⟨rfl, hb⟩; have HN12 := Aside0.mk (below_step HN11.out hb); clear hb HN11))
                  | (go_at_call 52; have _t := t8; go_must (refine (join_calls _ _ R' _ (Kd.C_below HKK.out.2.2.2 HN12.out) HO1.out.okR.1 (fun p hp => Nat.le_trans (HO1.out.okR.2 p hp) (by omega))).mono ?_; rw [← HTT.out]; rintro e w13 ⟨rfl, hb⟩; have HN13 := Aside0.mk (below_step HN12.out hb); clear hb HN12)))
                go_ret
                exact ⟨rfl, (HY.out.then_ HN13.out).below⟩
end Go.Proofs.Ytmbemlpmfklddaa.Own
