/- The walk of WalWiped: whatever its arguments, it comes to true. -/
import Derived.Test.YtmbemlpmfklddaaLog8
import Derived.Test.YtmbemlpmfklddaaLog9
import Derived.Test.YtmbemlpmfklddaaJn
namespace Go.Proofs.Ytmbemlpmfklddaa.Own
open Go.RowKit Go.Proofs.YtmbemlpmfklddaaW.PrintWords Go.Proofs.YtmbemlpmfklddaaW.PrintLast Go.Proofs.YtmbemlpmfklddaaW.PrintMore
/-- One op of many, here and in each world behind. -/
theorem op_at {w : World} {A : Option Addr} {xs : List Op14} (h : Kd.C k83 w A xs.length xs) (q : ∀ x ∈ xs, Q83 x) (i : Nat) (hi : i < xs.length) : ∃ ad kd la b L A2 c2 A3 c3, A = some ad ∧ b.length ≤ c2 ∧ Byt b ∧ (∀ y ∈ L, Byt y) ∧
    (∀ W' : World, Below w.heap.size w W' → W'.cell? (ad.add (i * 4)) = some (.int .i64 kd) ∧ W'.cell? ⟨(ad.add (i * 4)).block, (ad.add (i * 4)).off + 1, none⟩ = some (.int .i64 la) ∧
      W'.cell? ⟨(ad.add (i * 4)).block, (ad.add (i * 4)).off + 2, none⟩ = some (.slice A2 b.length c2) ∧ W'.cell? ⟨(ad.add (i * 4)).block, (ad.add (i * 4)).off + 3, none⟩ = some (.slice A3 L.length c3) ∧
      (Kd.int .u8).C W' A2 b.length b ∧ BL.C W' A3 L.length L) := by
  obtain ⟨ad, A2, c2, A3, c3, e, e0, e1, e2, e3, k2, C2, C3⟩ := at83 h i hi rfl
  have hq := q _ (List.getElem_mem hi)
  exact ⟨ad, _, _, _, _, A2, c2, A3, c3, e, k2, hq.2.2.1, hq.2.2.2, fun W' hb => ⟨pw_cell_below hb e0, pw_cell_below hb e1, pw_cell_below hb e2, pw_cell_below hb e3, Kd.C_below C2 hb, Kd.C_below C3 hb⟩⟩
set_option maxHeartbeats 16000000 in
set_option maxRecDepth 100000 in
theorem WalWiped_calls (A0 : Option Addr) (c0 : Nat) (l0 : List Op14) (A1 : Option Addr) (c1 : Nat) (l1 : List (List Int)) (w : World) (h0 : Kd.C k83 w A0 l0.length l0) (q0 : ∀ x ∈ l0, Q83 x) (h1 : BL.C w A1 l1.length l1) (qy : ∀ y ∈ l1, ∀ z ∈ y, 0 ≤ z ∧ z < 256) :
    Calls Try.prog 12 #[.slice A0 l0.length c0, .slice A1 l1.length c1] w fun e w' => e = .returned (.bool true) ∧ Below w.heap.size w w' := by
  have hu83 := Try.underlying83
  have HH := Aside0.mk (Here.nil w)
  have H0 := Aside0.mk h0
  have Q0 := Aside0.mk q0
  have H1 := Aside0.mk h1
  have QY := Aside0.mk qy
  have m0 := h0.2.1
  have m1 := h1.2.1
  clear h0 h1 q0 qy
  by_cases hgr : greatR 0 l1
  · have hd : decide (greatR 0 l1) = true := decide_eq_true hgr
    clear hgr
    go_enter Try.func12, Try.ntmps12
    go_wp2_with (first
      | (go_at_call 20; go_must (refine (New_here HH.out 3000 (by omega) (by omega)).mono ?_; rintro e w1 ⟨g, rfl, h⟩; have HD := Aside0.mk h; clear HH h))
      | (go_at_call 44; go_must (refine (Great_calls 0 0 none 0 0 A1 c1 l1 _ (Kd.C_below H1.out HD.out.below)).mono ?_; rw [hd]; rintro e w2 ⟨rfl, hb⟩; have HE := Aside0.mk (HD.out.then_ hb); clear HD hb))
      | (go_at_call 36; go_must (refine (alive14 _).mono ?_; rintro e w3 ⟨rfl, hb⟩; have HF := Aside0.mk (HE.out.then_ hb); clear HE hb)))
    go_ret
    exact ⟨rfl, HF.out.below⟩
  · have hd : decide (greatR 0 l1) = false := decide_eq_false hgr
    obtain ⟨_, hl5, hl1000⟩ := great_no hgr
    have HL := Aside0.mk hl1000
    clear hgr hl1000
    go_enter Try.func12, Try.ntmps12
    go_wp2_with (first
      | (go_at_call 20; go_must (refine (New_here HH.out 3000 (by omega) (by omega)).mono ?_; rintro e w1 ⟨g, rfl, h⟩; have HD := Aside0.mk h; clear HH h))
      | (go_at_call 44; go_must (refine (Great_calls 0 0 none 0 0 A1 c1 l1 _ (Kd.C_below H1.out HD.out.below)).mono ?_; rw [hd]; rintro e w2 ⟨rfl, hb⟩; have HE := Aside0.mk (HD.out.then_ hb); clear HD hb))
      | (go_at_call 45; go_must (refine (Format_here HE.out (by simp [Dm.new])).mono ?_; rintro e w3 ⟨gl, rfl, h⟩; have HF := Aside0.mk (WalS.fresh h rfl); clear HE h)))
    have HQ := Aside0.mk WipI.start
    obtain ⟨x0, hx0⟩ : ∃ x0 : Lg, x0 = ⟨1, 0, 0, 0, 0, 0⟩ := ⟨_, rfl⟩
    obtain ⟨d0, hd0⟩ : ∃ d0 : Dm, d0 = (Dm.new 3000).format := ⟨_, rfl⟩
    rw [← hx0, ← hd0] at HF HQ
    clear hx0 hd0 hd
    go_loopw [9] (fun v9 wr => ∃ (i r : Nat) (x : Lg) (d : Dm), v9 = .int .i64 i ∧ i ≤ l0.length ∧ i ≤ 40 ∧ r ≤ 1484 ∧ Aside0 (WipI x d r i) ∧ Aside0 (WalS w wr gl g x d [] [])) (fun v9 _ => l0.length - (intOf v9).toNat)
    case atStart => exact ⟨0, 1484, x0, d0, rfl, by omega, by omega, by omega, HQ, HF⟩
    case round =>
      clear HQ HF
      obtain ⟨i, r, x, d, rfl, hi, hi40, hr, HQ, HI⟩ := hrel
      have u1 : IntKind.i64.wrap ((i : Int) + 1) = (i : Int) + 1 := IntWalk.i64_in _ ⟨by omega, by omega⟩
      have HTL := Aside0.mk (show x.tail ≤ Sz d by have h1 := HQ.out.room.tail; have h2 := HQ.out.room.sz; omega)
      by_cases hlt : i < l0.length ∧ i < 40
      · obtain ⟨hl, h40⟩ := hlt
        have q1 : decide ((i : Int) < (l0.length : Int)) = true := decide_eq_true (by omega)
        have q2 : decide ((i : Int) < 40) = true := decide_eq_true (by omega)
        obtain ⟨ad, kd, la, b, L, A2, c2, A3, c3, rfl, k2, hby, _, hO⟩ := op_at H0.out Q0.out i hl
        have HO := Aside0.mk hO
        have HBY := Aside0.mk hby
        obtain ⟨e0, e1, e2, e3, _, _⟩ := HO.out _ HI.out.below
        clear hO hby
        by_cases hgr : greatR b.length L
        · have hg : decide (greatR b.length L) = true := decide_eq_true hgr
          clear hgr
          go_wp2_with (first
            | (go_at_call 44; go_must (refine (Great_calls kd la A2 b.length c2 A3 c3 L _ (HO.out _ HI.out.below).2.2.2.2.2).mono ?_; rw [hg]; rintro e w5 ⟨rfl, hb⟩; clear e0 e1 e2 e3; have HJ := Aside0.mk (HI.out.then_ hb); clear HI hb))
            | (go_at_call 36; go_must (refine (alive14 _).mono ?_; rintro e w6 ⟨rfl, hb⟩; have HF := Aside0.mk (HJ.out.then_ hb); clear HJ hb)))
          go_ret
          exact ⟨rfl, HF.out.below⟩
        · have hg : decide (greatR b.length L) = false := decide_eq_false hgr
          clear hgr
          by_cases hk : kd = 0
          · have q3 : (kd == 0) = true := beq_iff_eq.mpr hk
            clear hk
            have HAL := Aside0.mk (show x.all ≤ 1000000 by have h1 := HQ.out.room.all; omega)
            have HQL := Aside0.mk (show d.q.length ≤ 1000000 by have h1 := HQ.out.room.q; omega)
            have HAR := Aside0.mk (show x.area ≤ 1 by have h1 := HQ.out.room.area; omega)
            obtain ⟨r', hr', hn⟩ := HQ.out.app b HBY.out
            have HN := Aside0.mk hn
            clear hn
            go_wp2_with (first
              | (go_at_call 44; go_must (refine (Great_calls kd la A2 b.length c2 A3 c3 L _ (HO.out _ HI.out.below).2.2.2.2.2).mono ?_; rw [hg]; rintro e w5 ⟨rfl, hb⟩; clear e0 e1 e2 e3; have HJ := Aside0.mk (HI.out.then_ hb); obtain ⟨e0, e1, e2, e3, _, _⟩ := HO.out _ HJ.out.below; clear HI hb))
              | (go_at_call 46; go_must (refine (Append_s HJ.out HQL.out A2 b.length c2 b rfl (HO.out _ HJ.out.below).2.2.2.2.1 k2 HTL.out HAR.out HAL.out).mono ?_; rintro e w6 ⟨rfl, h⟩; clear e0 e1 e2 e3; have HK := Aside0.mk h; clear HJ h)))
            go_roundw
            case rel => exact ⟨i + 1, r', appL x d b, appD x d b, by go_num, by omega, by omega, by omega, HN, HK⟩
            case measure => simp [intOf]; omega
          · have q3 : (kd == 0) = false := beq_eq_false_iff_ne.mpr hk
            clear hk
            go_wp2_with (first
              | (go_at_call 44; go_must (refine (Great_calls kd la A2 b.length c2 A3 c3 L _ (HO.out _ HI.out.below).2.2.2.2.2).mono ?_; rw [hg]; rintro e w5 ⟨rfl, hb⟩; clear e0 e1 e2 e3; have HJ := Aside0.mk (HI.out.then_ hb); obtain ⟨e0, e1, e2, e3, _, _⟩ := HO.out _ HJ.out.below; clear HI hb)))
            have HN := Aside0.mk HQ.out.more
            go_roundw
            case rel => exact ⟨i + 1, r, x, d, by go_num, by omega, by omega, by omega, HN, HJ⟩
            case measure => simp [intOf]; omega
      · have hw : (decide ((i : Int) < (l0.length : Int)) = false ∧ ¬ i < l0.length) ∨ (decide ((i : Int) < (l0.length : Int)) = true ∧ i < l0.length ∧ decide ((i : Int) < 40) = false ∧ ¬ i < 40) := by
          by_cases h1 : i < l0.length
          · exact .inr ⟨decide_eq_true (by omega), h1, decide_eq_false (by omega), by omega⟩
          · exact .inl ⟨decide_eq_false (by omega), h1⟩
        have HQL := Aside0.mk (show d.q.length ≤ 1000000 by have h1 := HQ.out.room.q; omega)
        have hdo := HI.out.diskOk
        have HDO := Aside0.mk (Dm.ok_flush hdo)
        have HB0 := Aside0.mk (HQ.out.byt.flush hdo)
        obtain ⟨a0, tl, hv⟩ := HQ.out.view
        have HV0 := Aside0.mk hv.flush
        have HS4 := Aside0.mk (show Sz d.flush = 1484 by rw [Sz_flush hdo]; exact HQ.out.room.sz)
        have hbeg := HQ.out.room.begin hdo l1
        clear hlt hdo u1 hv
        rcases hbeg with ⟨hb, he⟩ | ⟨hb, he, hL, hP⟩
        · have HE := Aside0.mk he
          clear he
          rcases hw with ⟨q1, q2⟩ | ⟨q1, q2, q3, q4⟩
          all_goals
            go_wp2_with (first
              | (go_at_call 47; go_must (refine (Sync_s HI.out HQL.out).mono ?_; rintro e w8 ⟨rfl, h⟩; have HS := Aside0.mk h; clear HI h))
              | (go_at_call 48; go_must (refine (Begin_s HS.out A1 l1.length c1 l1 rfl (Kd.C_below H1.out HS.out.below) (by omega) (fun p hp => by have h9 := HL.out p hp; omega)).mono ?_; rw [HE.out]; rintro e w9 ⟨rfl, h⟩; have HU := Aside0.mk h; clear HS h))
              | (go_at_call 36; go_must (refine (alive14 _).mono ?_; rintro e w6 ⟨rfl, hb⟩; have HF := Aside0.mk (HU.out.then_ hb); clear HU hb)))
            go_ret
            exact ⟨rfl, HF.out.below⟩
        · have HE := Aside0.mk he
          have HLE := Aside0.mk hL
          have HPE := Aside0.mk hP
          obtain ⟨pb, hpb⟩ : ∃ pb, pb = framesOf (recsOf 1 l1) := ⟨_, rfl⟩
          obtain ⟨s0, hs0⟩ : ∃ s0 : Lg × Dm, s0 = (⟨1, 0, x.tail, x.all, x.all, 1⟩, d.flush) := ⟨_, rfl⟩
          have HPB := Aside0.mk hpb
          have HS0 := Aside0.mk hs0
          have hpl : pb.length ≤ 1484 := by rw [hpb]; exact hb
          have HPY := Aside0.mk (show Byt pb by rw [hpb]; exact Byt.frames 1 l1 QY.out)
          clear he hL hP hpb hs0 hb
          rcases hw with ⟨q1, q2⟩ | ⟨q1, q2, q3, q4⟩
          all_goals
            go_wp2_with (first
              | (go_at_call 47; go_must (refine (Sync_s HI.out HQL.out).mono ?_; rintro e w8 ⟨rfl, h⟩; have HS := Aside0.mk h; clear HI h))
              | (go_at_call 48; go_must (refine (Begin_s HS.out A1 l1.length c1 l1 rfl (Kd.C_below H1.out HS.out.below) (by omega) (fun p hp => by have h9 := HL.out p hp; omega)).mono ?_; rw [HE.out, HLE.out, HPE.out]; rintro e w9 ⟨rfl, h⟩; have HU := Aside0.mk (show WalS w w9 gl g (runS pb 0 s0).1 (runS pb 0 s0).2 pb [] by rw [HS0.out, HPB.out]; exact h); clear HS h)))
            have HZ0 := Aside0.mk (show ByD (runS pb 0 s0).2 by rw [HS0.out]; exact HB0.out)
            clear HE HLE HPE HQ HTL
            go_loopw [10] (fun v10 wr => ∃ (j : Nat), v10 = .int .i64 j ∧ j ≤ 5 ∧ Aside0 (ByD (runS pb j s0).2) ∧ Aside0 (WalS w wr gl g (runS pb j s0).1 (runS pb j s0).2 pb [])) (fun v10 _ => 5 - (intOf v10).toNat)
            case atStart => exact ⟨0, rfl, by omega, HZ0, HU⟩
            case round =>
              clear HZ0 HU
              obtain ⟨j, rfl, hj, HZ, HU⟩ := hrel
              by_cases hj5 : j < 5
              · have q5 : decide ((j : Int) < 5) = true := decide_eq_true (by omega)
                have u5 : IntKind.i64.wrap ((j : Int) + 1) = (j : Int) + 1 := IntWalk.i64_in _ ⟨by omega, by omega⟩
                have HOK := Aside0.mk (runS_ok (parts := pb) (gen := 1) (area := 0) (tail := x.tail) (all := x.all) (sure := x.all) HDO.out (by show 0 ≤ 1000000; omega) (by rw [HS4.out]; exact hpl) (by omega) ⟨by omega, by omega⟩ hj5)
                rw [← HS0.out] at HOK
                go_wp2_with (go_at_call 49; go_must (refine (Step_s HU.out HOK.out.1 HOK.out.2.1 HOK.out.2.2.1 HOK.out.2.2.2.1 HOK.out.2.2.2.2).mono ?_; rintro e w9 ⟨rfl, h⟩; have HZ2 := Aside0.mk (show ByD (runS pb (j + 1) s0).2 from HZ.out.step HU.out.diskOk HPY.out); have HJ := Aside0.mk (show WalS w w9 gl g (runS pb (j + 1) s0).1 (runS pb (j + 1) s0).2 pb [] from h); clear HU h))
                go_roundw
                case rel => exact ⟨j + 1, by go_num, by omega, HZ2, HJ⟩
                case measure => simp [intOf]; omega
              · have q5 : decide ((j : Int) < 5) = false := decide_eq_false (by omega)
                obtain rfl : j = 5 := by omega
                have HLS := Aside0.mk (show (runS pb 5 s0).1 = ⟨2, 1, pb.length, x.all, x.all, 0⟩ by rw [HS0.out]; exact runS_last pb 1 0 x.tail x.all x.all d.flush)
                rw [HLS.out] at HU
                have HQ5 := Aside0.mk (show (runS pb 5 s0).2.q.length = 0 by rw [HS0.out]; rfl)
                have HV := Aside0.mk (show View (runS pb 5 s0).2 (slotB 2 1) (slotB 1 0) (List.replicate 1484 0) (pb ++ List.replicate (1484 - pb.length) 0) tl 1484 by rw [HS0.out]; exact run_view HV0.out hpl)
                obtain ⟨D5, hD5⟩ : ∃ D5, D5 = (runS pb 5 s0).2 := ⟨_, rfl⟩
                rw [← hD5] at HU HQ5 HV HZ
                obtain ⟨zs, hzs⟩ : ∃ zs : List Int, zs = List.replicate 1484 0 := ⟨_, rfl⟩
                obtain ⟨a1, ha1⟩ : ∃ a1 : List Int, a1 = pb ++ List.replicate (1484 - pb.length) 0 := ⟨_, rfl⟩
                have HA0 := Aside0.mk (show D5.read (plc D5 0 0) (Sz D5) = zs by rw [hzs]; exact HV.out.areaB0)
                have HA1 := Aside0.mk (show D5.read (plc D5 1 0) (Sz D5) = a1 by rw [ha1]; exact HV.out.areaB1)
                have HZL := Aside0.mk (show zs.length = 1484 by rw [hzs, List.length_replicate])
                have HZG := Aside0.mk (show ∀ k, zs.getD k 0 = 0 by
                  intro k
                  rw [hzs, List.getD_eq_getElem?_getD, List.getElem?_replicate]
                  by_cases hk : k < 1484
                  · rw [if_pos hk]; rfl
                  · rw [if_neg hk]; rfl)
                have HAL := Aside0.mk (show a1.length = 1484 by rw [ha1, List.length_append, List.length_replicate]; omega)
                have HAC := Aside0.mk (show cntZ a1 ≤ pb.length by rw [ha1]; exact cntZ_le pb _)
                have HOP := Aside0.mk (show slotsG D5 = (2, 1) ∧ readR (areaB D5 1) = (recsOf 1 l1, pb.length, 0) ∧ splitR (recsOf 1 l1) [] [] = some (l1, []) by
                  have hv := HV.out
                  rw [HPB.out] at hv
                  rw [HPB.out]
                  exact wip_open hv (fun p hp => by have h9 := HL.out p hp; omega))
                obtain ⟨vl, vb, _, h9⟩ := HU.out.disk
                have H9 := Aside0.mk h9
                clear HU h9 hD5 hzs ha1 HS0 HV HLS HDO HB0 HV0 HS4
                go_wp2_with (first
                  | (go_at_call 50; go_must (refine (Areas_here H9.out (by rw [HQ5.out]; omega)).mono ?_; rw [HA0.out, HA1.out]; rintro e w10 ⟨v0, v1, rfl, h⟩; obtain ⟨ga, ca, rfl, ka⟩ := (Here.nth h 1 (by simp)).row (by rw [HZL.out]; omega); obtain ⟨gb, cb, rfl, kb⟩ := (Here.nth h 2 (by simp)).row (by show 0 < a1.length; rw [HAL.out]; omega); rw [HZL.out, show a1.length = 1484 from HAL.out] at h ⊢; have H10 := Aside0.mk (h.newCells #[.slice (some ⟨ga, 0, none⟩) 1484 ca, .slice (some ⟨gb, 0, none⟩) 1484 cb] 90); clear h H9))
                  | (go_at_call 51; go_must (refine (Stage_here (Here.nth H10.out 4 (by simp))).mono ?_; rintro e w11 ⟨rfl, rfl⟩)))
                obtain ⟨bb, hbb⟩ : ∃ bb, bb = w10.heap.size := ⟨_, rfl⟩
                obtain ⟨Ls, hLs⟩ : ∃ Ls : List Thing, Ls = CellsT bb #[.slice (some ⟨ga, 0, none⟩) 1484 ca, .slice (some ⟨gb, 0, none⟩) 1484 cb] 90 :: DiskT g D5 :: BytesT (.slice (some ⟨ga, 0, none⟩) 1484 ca) zs :: BytesT (.slice (some ⟨gb, 0, none⟩) 1484 cb) a1 :: LogT gl g ⟨2, 1, pb.length, x.all, x.all, 0⟩ vl :: BytesT vb pb :: [] := ⟨_, rfl⟩
                have HLS := Aside0.mk hLs
                have HA := Aside0.mk (show Here w (w10.alloc (.cells #[.slice (some ⟨ga, 0, none⟩) 1484 ca, .slice (some ⟨gb, 0, none⟩) 1484 cb] 90)) Ls by rw [hLs, hbb]; exact H10.out)
                clear H10 hLs
                rw [← hbb]
                clear hbb
                go_loopw [13, 14, 15] (fun v13 v14 v15 wr => ∃ (n : Nat) (sm : Int), ((v15 = .int .i64 0 ∧ v13 = .int .i64 0 ∧ v14 = .int .i64 0) ∨ (v15 = .int .i64 1 ∧ v13 = .int .i64 0 ∧ v14 = .int .i64 0) ∨ (v15 = .int .i64 2 ∧ v13 = .int .i64 n ∧ v14 = .int .i64 sm ∧ n ≤ pb.length ∧ (sm = 0 ∨ sm = 2))) ∧ Aside0 (Here w wr Ls)) (fun _ _ v15 _ => 2 - (intOf v15).toNat)
                case atStart => exact ⟨0, 0, .inl ⟨rfl, rfl, rfl⟩, HA⟩
                case round =>
                  clear HA
                  obtain ⟨n, sm, hcs, HI⟩ := hrel
                  rcases hcs with ⟨rfl, rfl, rfl⟩ | ⟨rfl, rfl, rfl⟩ | ⟨rfl, rfl, rfl, hn, hsm⟩
                  · go_wp2_with fail
                    obtain ⟨wo, hwo⟩ : ∃ wo, wo = wr := ⟨_, rfl⟩
                    subst hwo
                    go_loopw [13, 14, 16] (fun v13 v14 v16 wr => ∃ (k : Nat), v16 = .int .i64 k ∧ v13 = .int .i64 0 ∧ v14 = .int .i64 0 ∧ k ≤ 1484 ∧ Aside0 (Here w wr Ls)) (fun _ _ v16 _ => 1484 - (intOf v16).toNat)
                    case atStart => exact ⟨0, rfl, rfl, rfl, by omega, HI⟩
                    case round =>
                      clear HI
                      obtain ⟨k, rfl, rfl, rfl, hk, HI⟩ := hrel
                      have HI' := HI.out
                      rw [HLS.out] at HI'
                      obtain ⟨e0, e1, f0, f1, el⟩ := cellsA_of HI'
                      by_cases hlt : k < 1484
                      · have q6 : decide ((k : Int) < 1484) = true := decide_eq_true (by omega)
                        have u6 : IntKind.i64.wrap ((k : Int) + 1) = (k : Int) + 1 := IntWalk.i64_in _ ⟨by omega, by omega⟩
                        obtain ⟨b0, _⟩ := (Here.nth HI' 2 (by simp)).byteAt k hlt
                        rw [HZG.out k] at b0
                        have b1 : wr.cell? ((⟨ga, 0, none⟩ : Addr).add k) = some (.int .u8 0) := by rw [add_plain]; exact b0
                        clear HI'
                        go_wp2_with fail
                        go_roundw
                        case rel => exact ⟨k + 1, by go_num, rfl, rfl, by omega, HI⟩
                        case measure => simp [intOf]; omega
                      · have q6 : decide ((k : Int) < 1484) = false := decide_eq_false (by omega)
                        clear HI'
                        go_wp2_with fail
                        go_roundw
                        case rel => exact ⟨0, 0, .inr (.inl ⟨rfl, rfl, rfl⟩), HI⟩
                        case measure => simp [intOf]
                  · go_wp2_with fail
                    obtain ⟨wo, hwo⟩ : ∃ wo, wo = wr := ⟨_, rfl⟩
                    subst hwo
                    go_loopw [13, 14, 16] (fun v13 v14 v16 wr => ∃ (k n : Nat) (sm : Int), v16 = .int .i64 k ∧ v13 = .int .i64 n ∧ v14 = .int .i64 sm ∧ k ≤ 1484 ∧ n ≤ k ∧ (sm = 0 ∨ sm = 2) ∧ Aside0 (n = cntZ (a1.take k)) ∧ Aside0 (Here w wr Ls)) (fun _ _ v16 _ => 1484 - (intOf v16).toNat)
                    case atStart => exact ⟨0, 0, 0, rfl, rfl, rfl, by omega, by omega, .inl rfl, ⟨rfl⟩, HI⟩
                    case round =>
                      clear HI
                      obtain ⟨k, n, sm, rfl, rfl, rfl, hk, hnk, hsm, HC, HI⟩ := hrel
                      have HI' := HI.out
                      rw [HLS.out] at HI'
                      obtain ⟨e0, e1, f0, f1, el⟩ := cellsA_of HI'
                      by_cases hlt : k < 1484
                      · have q6 : decide ((k : Int) < 1484) = true := decide_eq_true (by omega)
                        have u6 : IntKind.i64.wrap ((k : Int) + 1) = (k : Int) + 1 := IntWalk.i64_in _ ⟨by omega, by omega⟩
                        have u7 : IntKind.i64.wrap ((n : Int) + 1) = (n : Int) + 1 := IntWalk.i64_in _ ⟨by omega, by omega⟩
                        obtain ⟨b0, _⟩ := (Here.nth HI' 3 (by simp)).byteAt k hlt
                        have HCT := Aside0.mk (cntZ_take (l := a1) (k := k) (by rw [HAL.out]; exact hlt))
                        generalize a1.getD k 0 = y at b0 HCT
                        have b1 : wr.cell? ((⟨gb, 0, none⟩ : Addr).add k) = some (.int .u8 y) := by rw [add_plain]; exact b0
                        clear HI'
                        by_cases hy : y = 0
                        · have q7 : (y != 0) = false := by rw [hy]; rfl
                          have HCT2 := Aside0.mk (show n = cntZ (a1.take (k + 1)) by rw [HCT.out, if_pos hy, ← HC.out]; rfl)
                          clear hy
                          go_wp2_with fail
                          go_roundw
                          case rel => exact ⟨k + 1, n, sm, by go_num, rfl, rfl, by omega, by omega, hsm, HCT2, HI⟩
                          case measure => simp [intOf]; omega
                        · have q7 : (y != 0) = true := bne_iff_ne.mpr hy
                          have HCT2 := Aside0.mk (show n + 1 = cntZ (a1.take (k + 1)) by rw [HCT.out, if_neg hy, ← HC.out])
                          clear hy
                          rcases hsm with rfl | rfl
                          all_goals
                            go_wp2_with fail
                            go_region
                          all_goals
                            go_wp2_with fail
                            go_roundw
                            case rel => exact ⟨k + 1, n + 1, 2, by go_num, by go_num, rfl, by omega, by omega, .inr rfl, HCT2, ⟨HI.out.drew⟩⟩
                            case measure => simp [intOf]; omega
                      · have q6 : decide ((k : Int) < 1484) = false := decide_eq_false (by omega)
                        obtain rfl : k = 1484 := by omega
                        have hn : n ≤ pb.length := by
                          have h8 := HC.out
                          rw [List.take_of_length_le (by rw [HAL.out]; omega)] at h8
                          rw [h8]
                          exact HAC.out
                        clear HI'
                        go_wp2_with fail
                        go_roundw
                        case rel => exact ⟨n, sm, .inr (.inr ⟨rfl, rfl, rfl, hn, hsm⟩), HI⟩
                        case measure => simp [intOf]
                  · obtain ⟨fl, hfl⟩ : ∃ fl : Nat → Nat, fl = fun k => (framesOf (recsOf 1 (l1.take k))).length := ⟨_, rfl⟩
                    have HF0 := Aside0.mk (show fl 0 = 0 by rw [hfl]; rfl)
                    have HFS := Aside0.mk (show ∀ k (hk : k < l1.length), fl (k + 1) = fl k + (l1[k].length + 9) by rw [hfl]; exact fun k hk => frames_take hk)
                    have HFE := Aside0.mk (show fl l1.length = pb.length by rw [hfl, HPB.out]; simp only [List.take_length])
                    clear hfl
                    go_wp2_with fail
                    obtain ⟨wo, hwo⟩ : ∃ wo, wo = wr := ⟨_, rfl⟩
                    subst hwo
                    go_loopw [17, 18] (fun v17 v18 wr => ∃ (k f : Nat), v18 = .int .i64 k ∧ k ≤ l1.length ∧ f ≤ k * 1009 ∧ v17 = .int .i64 f ∧ Aside0 (f = fl k) ∧ Aside0 (Here w wr Ls)) (fun _ v18 _ => l1.length - (intOf v18).toNat)
                    case atStart => exact ⟨0, 0, rfl, by omega, by omega, rfl, ⟨HF0.out.symm⟩, HI⟩
                    case round =>
                      clear HI
                      obtain ⟨k, f, rfl, hk, hf, rfl, HK, HT⟩ := hrel
                      by_cases hlt : k < l1.length
                      · have q6 : decide ((k : Int) < (l1.length : Int)) = true := decide_eq_true (by omega)
                        have u6 : IntKind.i64.wrap ((k : Int) + 1) = (k : Int) + 1 := IntWalk.i64_in _ ⟨by omega, by omega⟩
                        obtain ⟨ad, A3, c3, hA, e0, k3, _⟩ := atRows H1.out k hlt rfl
                        subst hA
                        replace e0 := pw_cell_below HT.out.below e0
                        have hp := HL.out _ (List.getElem_mem hlt)
                        have HF2 := Aside0.mk (HFS.out k hlt)
                        generalize l1[k].length = p at e0 hp HF2 k3
                        have u2 : IntKind.i64.wrap ((f : Int) + (p : Int)) = (f : Int) + (p : Int) := IntWalk.i64_in _ ⟨by omega, by omega⟩
                        have u3 : IntKind.i64.wrap ((f : Int) + (p : Int) + 9) = (f : Int) + (p : Int) + 9 := IntWalk.i64_in _ ⟨by omega, by omega⟩
                        go_wp2_with fail
                        go_roundw
                        case rel => exact ⟨k + 1, f + (p + 9), by go_num, by omega, by omega, congrArg (Value.int .i64) (by omega), ⟨by rw [HF2.out, HK.out]⟩, HT⟩
                        case measure => simp [intOf]; omega
                      · have q6 : decide ((k : Int) < (l1.length : Int)) = false := decide_eq_false (by omega)
                        obtain rfl : k = l1.length := by omega
                        have hfp : f = pb.length := by rw [HK.out, HFE.out]
                        have q7 : decide ((n : Int) ≤ (f : Int)) = true := decide_eq_true (by omega)
                        have q8 : (sm != 3) = true := bne_iff_ne.mpr (by omega)
                        obtain ⟨S, hS⟩ : ∃ S, S = strOfNums (joinB l1) := ⟨_, rfl⟩
                        have HSS := Aside0.mk hS
                        have qS : (S.toList == S.toList) = true := beq_self_eq_true _
                        have HT' := HT.out
                        rw [HLS.out] at HT'
                        have HU := Aside0.mk HT'.swap
                        have t5 : True := trivial
                        have t6 : True := trivial
                        clear HT HT' hS hsm
                        go_wp2_with (first
                          | (go_at_call 40; go_must (refine (Open_yes HU.out (by rw [HQ5.out]; omega) HZ.out 2 1 pb.length (recsOf 1 l1) l1 [] HOP.out.1 (by omega) HOP.out.2.1 (by rw [recs_len]; omega) HOP.out.2.2).mono ?_; rintro e w12 ⟨gl2, vp, vr, rfl, h⟩; obtain ⟨A5, c5, A6, c6, rfl, rfl, K5, _⟩ := (Here.nth h 2 (by simp)).two; have HK5 := Aside0.mk K5; have HW := Aside0.mk h; clear h HU K5))
                          | (go_at_call 36; go_must (refine (alive14 _).mono ?_; rintro e w13 ⟨rfl, hb⟩; have HB := Aside0.mk hb; have HX := Aside0.mk (HW.out.then_ hb); clear HW hb))
                          | (go_at_call 52; have _t := t5; clear t5; go_must (refine (join_calls A5 c5 l1 _ (Kd.C_below HK5.out HB.out) (by omega) (fun p hp => by have h9 := HL.out p hp; omega)).mono ?_; rw [← HSS.out]; rintro e w14 ⟨rfl, hb⟩; have HY := Aside0.mk (HX.out.then_ hb); clear HX hb))
                          | (go_at_call 52; have _t := t6; go_must (refine (join_calls A1 c1 l1 _ (Kd.C_below H1.out HY.out.below) (by omega) (fun p hp => by have h9 := HL.out p hp; omega)).mono ?_; rw [← HSS.out]; rintro e w15 ⟨rfl, hb⟩; have HV2 := Aside0.mk (HY.out.then_ hb); clear HY hb)))
                        go_ret
                        exact ⟨rfl, HV2.out.below⟩
end Go.Proofs.Ytmbemlpmfklddaa.Own
