/- The walk of TopWiped: whatever its arguments, it comes to true. -/
import Derived.Test.YtmapdfommjcebaaGreatInA
import Derived.Test.YtmapdfommjcebaaGreatTpA
import Derived.Test.YtmapdfommjcebaaGreatTrD
namespace Go.Proofs.YtmapdfommjcebaaGreat.Own
open Go.RowKit Go.Proofs.YtmapdfommjcebaaGreatW.PrintWords Go.Proofs.YtmapdfommjcebaaGreatW.PrintLast Go.Proofs.YtmapdfommjcebaaGreatW.PrintMore
set_option maxHeartbeats 2000000 in
set_option maxRecDepth 100000 in
theorem freshLog (w : World) : Calls Tryz.prog 4 #[] w fun e W' => ∃ g gl, e = .returned (.tuple #[.pointer (some ⟨g, 0, none⟩), .pointer (some ⟨gl, 0, none⟩)]) ∧ Here w W' (LogT gl g ⟨1, 0, 0, 0, 0, 0⟩ (.slice none 0 0) :: DiskT g (Dm.new 60000).format :: []) := by
  go_enter Tryz.func4, Tryz.ntmps4
  go_wp2_with (first
    | (go_at_call 13; go_must (refine (New_here (Here.nil w) 60000 (by omega) (by omega)).mono ?_; rintro e w1 ⟨g, rfl, h⟩; have HD := Aside0.mk h; clear h))
    | (go_at_call 14; go_must (refine (Format_here HD.out (dm_q _)).mono ?_; rintro e w2 ⟨gl, rfl, h⟩; have HL := Aside0.mk h; clear h HD)))
  go_ret2
  exact ⟨g, gl, rfl, HL.out⟩
/-- One packet of many, here and in each world behind. -/
theorem pkt_at {w : World} {A : Option Addr} {xs : List Pkt} (h : Kd.C k35 w A xs.length xs) (q : ∀ x ∈ xs, Q35 x) (i : Nat) (hi : i < xs.length) : ∃ ad a f t s d A2 c2, A = some ad ∧ d.length ≤ c2 ∧ Byt d ∧
    (∀ W' : World, Below w.heap.size w W' → W'.cell? (ad.add (i * 5)) = some (.bool a) ∧ W'.cell? ⟨(ad.add (i * 5)).block, (ad.add (i * 5)).off + 1, none⟩ = some (.int .i64 f) ∧
      W'.cell? ⟨(ad.add (i * 5)).block, (ad.add (i * 5)).off + 2, none⟩ = some (.int .i64 t) ∧ W'.cell? ⟨(ad.add (i * 5)).block, (ad.add (i * 5)).off + 3, none⟩ = some (.int .u64 s) ∧
      W'.cell? ⟨(ad.add (i * 5)).block, (ad.add (i * 5)).off + 4, none⟩ = some (.slice A2 d.length c2) ∧ (Kd.int .u8).C W' A2 d.length d) := by
  obtain ⟨ad, A2, c2, e, e0, e1, e2, e3, e4, k2, C2⟩ := at35 h i hi rfl
  have hq := q _ (List.getElem_mem hi)
  exact ⟨ad, _, _, _, _, _, A2, c2, e, k2, hq.2.2.2.2, fun W' hb => ⟨pw_cell_below hb e0, pw_cell_below hb e1, pw_cell_below hb e2, pw_cell_below hb e3, pw_cell_below hb e4, Kd.C_below C2 hb⟩⟩
/-- What an area has: its records are parts alone, and behind them are noughts. -/
def AreaR (A : List Int) (m n : Nat) : Prop := A.length = 29984 ∧ (∃ R : List Rec, R.length = m ∧ (∀ (k : Nat) (hk : k < R.length), R[k].1 = 1) ∧ readR A = (R, n, 0)) ∧ Byt A ∧ n ≤ 29984 ∧ ∀ k, n ≤ k → A.getD k 0 = 0
theorem rep_getD (n k : Nat) : (List.replicate n (0 : Int)).getD k 0 = 0 := by
  rw [List.getD_eq_getElem?_getD, List.getElem?_replicate]
  by_cases hk : k < n
  · rw [if_pos hk]; rfl
  · rw [if_neg hk]; rfl
theorem areaR_zero {zs : List Int} (h : zs = List.replicate 29984 0) : AreaR zs 0 0 := by
  subst h
  exact ⟨List.length_replicate, ⟨[], rfl, fun k hk => absurd hk (by simp), read_parts (L := []) (by simp) 29984⟩, Byt.zeros _, by omega, fun k _ => rep_getD _ _⟩
theorem areaR_parts {L : List (List Int)} {pb a1 : List Int} (hL : ∀ p ∈ L, p.length ≤ 1000) (hp : pb = framesOf (recsOf 1 L)) (hy : Byt pb) (h : a1 = pb ++ List.replicate (29984 - pb.length) 0) (hn : pb.length ≤ 29984) : AreaR a1 L.length pb.length := by
  refine ⟨by rw [h, List.length_append, List.length_replicate]; omega, ⟨recsOf 1 L, recs_len 1 L, fun k hk => by simp [recsOf], ?_⟩, ?_, hn, fun k hk => ?_⟩
  · rw [h, hp]
    exact read_parts (fun p hp => by have := hL p hp; omega) _
  · rw [h]
    exact hy.append (Byt.zeros _)
  · rw [h, List.getD_eq_getElem?_getD, List.getElem?_append_right hk, ← List.getD_eq_getElem?_getD]
    exact rep_getD _ _
/-- The areas, one by one. -/
theorem sel_two {w : World} {Ls Rs : List Thing} {bb g ga gb ca cb m0 n0 m1 n1 : Nat} {D : Dm} {zs a1 : List Int}
    (hLs : Ls = CellsT bb #[.slice (some ⟨ga, 0, none⟩) 29984 ca, .slice (some ⟨gb, 0, none⟩) 29984 cb] 49 :: DiskT g D :: BytesT (.slice (some ⟨ga, 0, none⟩) 29984 ca) zs :: BytesT (.slice (some ⟨gb, 0, none⟩) 29984 cb) a1 :: Rs) (h0 : AreaR zs m0 n0) (h1 : AreaR a1 m1 n1) :
    ∀ k, k < 2 → ∃ gx cx A m n, AreaR A m n ∧ ∀ W' : World, Here w W' Ls → W'.cell? ⟨bb, k, none⟩ = some (.slice (some ⟨gx, 0, none⟩) 29984 cx) ∧ ∃ Qs, Here w W' (BytesT (.slice (some ⟨gx, 0, none⟩) 29984 cx) A :: Qs) := by
  intro k hk
  subst hLs
  match k, hk with
  | 0, _ => exact ⟨ga, ca, zs, m0, n0, h0, fun W' h => ⟨cell_of_row W' bb 0 _ _ _ h.cells, _, Here.nth h 2 (by simp)⟩⟩
  | 1, _ => exact ⟨gb, cb, a1, m1, n1, h1, fun W' h => ⟨cell_of_row W' bb 1 _ _ _ h.cells, _, Here.nth h 3 (by simp)⟩⟩
set_option maxHeartbeats 16000000 in
set_option maxRecDepth 100000 in
theorem TopWiped_calls (A0 : Option Addr) (c0 : Nat) (l0 : List Pkt) (A1 : Option Addr) (c1 : Nat) (l1 : List (List Int)) (w : World) (h0 : Kd.C k35 w A0 l0.length l0) (q0 : ∀ x ∈ l0, Q35 x) (h1 : BL.C w A1 l1.length l1) (qy : ∀ y ∈ l1, ∀ z ∈ y, 0 ≤ z ∧ z < 256) :
    Calls Tryz.prog 3 #[.slice A0 l0.length c0, .slice A1 l1.length c1] w fun e w' => e = .returned (.bool true) ∧ Below w.heap.size w w' := by
  have H0 := Aside0.mk h0
  have Q0 := Aside0.mk q0
  have H1 := Aside0.mk h1
  have QY := Aside0.mk qy
  have m0 := h0.2.1
  have m1 := h1.2.1
  clear h0 h1 q0 qy
  by_cases hgr : 20 < l0.length ∨ 5 < l1.length
  · have hz : (20 < l0.length) ∨ (¬ 20 < l0.length ∧ 5 < l1.length) := by omega
    clear hgr
    rcases hz with hz | ⟨hz, hy⟩
    · have q1 : decide ((20 : Int) < (l0.length : Int)) = true := decide_eq_true (by omega)
      go_enter Tryz.func3, Tryz.ntmps3
      go_wp2_with (first
        | (go_at_call 4; go_must (refine (freshLog w).mono ?_; rintro e w1 ⟨g, gl, rfl, h⟩; have HB := Aside0.mk h.below; clear h))
        | (go_at_call 5; go_must (refine (alive16 _).mono ?_; rintro e w3 ⟨rfl, hb⟩; have HF := Aside0.mk (below_step HB.out hb); clear HB hb)))
      go_ret
      exact ⟨rfl, HF.out⟩
    · have q1 : decide ((20 : Int) < (l0.length : Int)) = false := decide_eq_false (by omega)
      have q2 : decide ((5 : Int) < (l1.length : Int)) = true := decide_eq_true (by omega)
      go_enter Tryz.func3, Tryz.ntmps3
      go_wp2_with (first
        | (go_at_call 4; go_must (refine (freshLog w).mono ?_; rintro e w1 ⟨g, gl, rfl, h⟩; have HB := Aside0.mk h.below; clear h))
        | (go_at_call 5; go_must (refine (alive16 _).mono ?_; rintro e w3 ⟨rfl, hb⟩; have HF := Aside0.mk (below_step HB.out hb); clear HB hb)))
      go_ret
      exact ⟨rfl, HF.out⟩
  · have hz0 : l0.length ≤ 20 := by omega
    have hz1 : l1.length ≤ 5 := by omega
    have q1 : decide ((20 : Int) < (l0.length : Int)) = false := decide_eq_false (by omega)
    have q2 : decide ((5 : Int) < (l1.length : Int)) = false := decide_eq_false (by omega)
    clear hgr
    go_enter Tryz.func3, Tryz.ntmps3
    go_wp2_with (first
      | (go_at_call 4; go_must (refine (freshLog w).mono ?_; rintro e w1 ⟨g, gl, rfl, h⟩; have HF := Aside0.mk (WalS.fresh h rfl); clear h)))
    have HQ := Aside0.mk WipIZ.start
    obtain ⟨x0, hx0⟩ : ∃ x0 : Lg, x0 = ⟨1, 0, 0, 0, 0, 0⟩ := ⟨_, rfl⟩
    obtain ⟨d0, hd0⟩ : ∃ d0 : Dm, d0 = (Dm.new 60000).format := ⟨_, rfl⟩
    rw [← hx0, ← hd0] at HF HQ
    clear hx0 hd0 q1 q2
    go_loopw [7] (fun v7 wr => ∃ (i r : Nat) (x : Lg) (d : Dm), v7 = .int .i64 i ∧ i ≤ l0.length ∧ r ≤ 29984 ∧ Aside0 (WipIZ 29984 x d r i) ∧ Aside0 (WalS w wr gl g x d [] [])) (fun v7 _ => l0.length - (intOf v7).toNat)
    case atStart => exact ⟨0, 29984, x0, d0, rfl, by omega, by omega, HQ, HF⟩
    case round =>
      clear HQ HF
      obtain ⟨i, r, x, d, rfl, hi, hr, HQ, HI⟩ := hrel
      have u1 : IntKind.i64.wrap ((i : Int) + 1) = (i : Int) + 1 := IntWalk.i64_in _ ⟨by omega, by omega⟩
      have HTL := Aside0.mk (show x.tail ≤ Sz d by have h1 := HQ.out.room.tail; have h2 := HQ.out.room.sz; omega)
      by_cases hl : i < l0.length
      · have q1 : decide ((i : Int) < (l0.length : Int)) = true := decide_eq_true (by omega)
        obtain ⟨ad, pa, pf, pt, ps, pd, A2, c2, rfl, k2, hby, hO⟩ := pkt_at H0.out Q0.out i hl
        have HO := Aside0.mk hO
        have HBY := Aside0.mk hby
        have HK2 := Aside0.mk k2
        obtain ⟨e0, e1, e2, e3, e4, _⟩ := HO.out _ HI.out.below
        have HAL := Aside0.mk (show x.all ≤ 1000000 by have h1 := HQ.out.room.all; omega)
        have HQL := Aside0.mk (show d.q.length ≤ 1000000 by have h1 := HQ.out.room.q; omega)
        have HAR := Aside0.mk (show x.area ≤ 1 by have h1 := HQ.out.room.area; omega)
        obtain ⟨pn, hpn⟩ : ∃ pn, pn = pd.length := ⟨_, rfl⟩
        have HPN := Aside0.mk hpn
        rw [← hpn] at e4 HK2
        clear hO hby k2 hpn
        go_wp2_with (first
          | (go_at_call 6; go_must (refine (inWrite _ pa pf pt ps A2 pn c2 pd HPN.out (HO.out _ HI.out.below).2.2.2.2.2 HK2.out HBY.out).mono ?_; rintro e w5 ⟨A5, c5, b5, er, rfl, hk, hC, hy, hl5, hb⟩; clear e0 e1 e2 e3 e4; have HJ := Aside0.mk (HI.out.then_ hb); have HK5 := Aside0.mk hk; have HC5 := Aside0.mk hC; have HY5 := Aside0.mk hy; clear hk hC hy hb HI))
          | (go_at_call 7; go_must (refine (Append_s HJ.out HQL.out A5 b5.length c5 b5 rfl HC5.out HK5.out HTL.out HAR.out HAL.out).mono ?_; rintro e w6 ⟨rfl, h⟩; have HK := Aside0.mk h; clear h)))
        all_goals
          go_roundw
          case rel =>
            first
            | exact ⟨i + 1, r, x, d, by go_num, by omega, by omega, ⟨HQ.out.more⟩, HJ⟩
            | (obtain ⟨r', hr', hn⟩ := HQ.out.app b5 HY5.out
               exact ⟨i + 1, r', _, _, by go_num, by omega, by omega, ⟨hn⟩, HK⟩)
          case measure => simp [intOf]; omega
      · have q1 : decide ((i : Int) < (l0.length : Int)) = false := decide_eq_false (by omega)
        have HQL := Aside0.mk (show d.q.length ≤ 1000000 by have h1 := HQ.out.room.q; omega)
        have hdo := HI.out.diskOk
        have HDO := Aside0.mk (Dm.ok_flush hdo)
        have HB0 := Aside0.mk (HQ.out.byt.flush hdo)
        obtain ⟨a0, tl, hv⟩ := HQ.out.view
        have HV0 := Aside0.mk hv.flush
        have HS4 := Aside0.mk (show Sz d.flush = 29984 by rw [Sz_flush hdo]; exact HQ.out.room.sz)
        have HBG := Aside0.mk (HQ.out.room.begin hdo l1)
        clear hdo u1 hv
        go_wp2_with (first
          | (go_at_call 8; go_must (refine (Sync_s HI.out HQL.out).mono ?_; rintro e w8 ⟨rfl, h⟩; have HS := Aside0.mk h; clear HI h)))
        go_loopw [10, 11] (fun v10 v11 wr => ∃ (i sm : Nat), v11 = .int .i64 i ∧ v10 = .int .i64 sm ∧ i ≤ l1.length ∧ sm ≤ i * 1000 ∧ Aside0 (∀ (j : Nat) (hj : j < l1.length), j < i → l1[j].length ≤ 1000) ∧ Aside0 (WalS w wr gl g { x with sure := x.all } d.flush [] [])) (fun _ v11 _ => l1.length - (intOf v11).toNat)
        case atStart => exact ⟨0, 0, rfl, rfl, by omega, by omega, ⟨fun j _ hj => absurd hj (by omega)⟩, HS⟩
        case round =>
          clear HS hi hl q1
          obtain ⟨i, sm, rfl, rfl, hi, hsm, HP, HS⟩ := hrel
          by_cases hl : i < l1.length
          · have q1 : decide ((i : Int) < (l1.length : Int)) = true := decide_eq_true (by omega)
            have u1 : IntKind.i64.wrap ((i : Int) + 1) = (i : Int) + 1 := IntWalk.i64_in _ ⟨by omega, by omega⟩
            obtain ⟨ad, A3, c3, hA, e0, k3, _⟩ := atRows H1.out i hl rfl
            subst hA
            replace e0 := pw_cell_below HS.out.below e0
            obtain ⟨p, hp⟩ : ∃ p, p = l1[i].length := ⟨_, rfl⟩
            have HPP := Aside0.mk hp
            rw [← hp] at e0 k3
            clear hp k3
            by_cases hg : p ≤ 1000
            · have q2 : decide ((1000 : Int) < (p : Int)) = false := decide_eq_false (by omega)
              have u2 : IntKind.i64.wrap ((sm : Int) + (p : Int)) = (sm : Int) + (p : Int) := IntWalk.i64_in _ ⟨by omega, by omega⟩
              have HP2 := Aside0.mk (show ∀ (j : Nat) (hj : j < l1.length), j < i + 1 → l1[j].length ≤ 1000 from fun j hj hj2 => by
                by_cases he : j = i
                · subst he
                  rw [← HPP.out]
                  exact hg
                · exact HP.out j hj (by omega))
              go_wp2_with fail
              go_roundw
              case rel => exact ⟨i + 1, sm + p, by go_num, by go_num, by omega, by omega, HP2, HS⟩
              case measure => simp [intOf]; omega
            · have q2 : decide ((1000 : Int) < (p : Int)) = true := decide_eq_true (by omega)
              go_wp2_with (first
                | (go_at_call 5; go_must (refine (alive16 _).mono ?_; rintro e w9 ⟨rfl, hb⟩; have HF := Aside0.mk (HS.out.then_ hb); clear HS hb)))
              go_ret
              exact ⟨rfl, HF.out.below⟩
          · obtain rfl : i = l1.length := by omega
            have q1 : decide ((l1.length : Int) < (l1.length : Int)) = false := decide_eq_false (by omega)
            have HL := Aside0.mk (show ∀ p ∈ l1, p.length ≤ 1000 by
              intro p hp
              obtain ⟨j, hj, rfl⟩ := List.mem_iff_getElem.1 hp
              exact HP.out j hj hj)
            have hfl : (framesOf (recsOf 1 l1)).length ≤ 5045 := by
              have := frames_le HL.out
              omega
            rcases HBG.out with ⟨hb, _⟩ | ⟨_, he, hbL, hbP⟩
            · omega
            have HE := Aside0.mk he
            have HLE := Aside0.mk hbL
            have HPE := Aside0.mk hbP
            obtain ⟨pb, hpb⟩ : ∃ pb, pb = framesOf (recsOf 1 l1) := ⟨_, rfl⟩
            obtain ⟨s0, hs0⟩ : ∃ s0 : Lg × Dm, s0 = (⟨1, 0, x.tail, x.all, x.all, 1⟩, d.flush) := ⟨_, rfl⟩
            have HPB := Aside0.mk hpb
            have HS0 := Aside0.mk hs0
            have hpl : pb.length ≤ 5045 := by rw [hpb]; exact hfl
            have HPY := Aside0.mk (show Byt pb by rw [hpb]; exact Byt.frames 1 l1 QY.out)
            clear he hbL hbP hpb hs0 hfl hl hi hsm HP HBG
            go_wp2_with (first
              | (go_at_call 9; go_must (refine (Begin_s HS.out A1 l1.length c1 l1 rfl (Kd.C_below H1.out HS.out.below) (by omega) (fun p hp => by have h9 := HL.out p hp; omega)).mono ?_; rw [HE.out, HLE.out, HPE.out]; rintro e w9 ⟨rfl, h⟩; have HU := Aside0.mk (show WalS w w9 gl g (runS pb 0 s0).1 (runS pb 0 s0).2 pb [] by rw [HS0.out, HPB.out]; exact h); clear HS h)))
            have HZ0 := Aside0.mk (show ByD (runS pb 0 s0).2 by rw [HS0.out]; exact HB0.out)
            clear HE HLE HPE HQ HTL q1
            go_loopw [12] (fun v12 wr => ∃ (j : Nat), v12 = .int .i64 j ∧ j ≤ 5 ∧ Aside0 (ByD (runS pb j s0).2) ∧ Aside0 (WalS w wr gl g (runS pb j s0).1 (runS pb j s0).2 pb [])) (fun v12 _ => 5 - (intOf v12).toNat)
            case atStart => exact ⟨0, rfl, by omega, HZ0, HU⟩
            case round =>
              clear HZ0 HU
              obtain ⟨j, rfl, hj, HZ, HU⟩ := hrel
              by_cases hj5 : j < 5
              · have q5 : decide ((j : Int) < 5) = true := decide_eq_true (by omega)
                have u5 : IntKind.i64.wrap ((j : Int) + 1) = (j : Int) + 1 := IntWalk.i64_in _ ⟨by omega, by omega⟩
                have HOK := Aside0.mk (runS_ok (parts := pb) (gen := 1) (area := 0) (tail := x.tail) (all := x.all) (sure := x.all) HDO.out (by show 0 ≤ 1000000; omega) (by rw [HS4.out]; omega) (by omega) ⟨by omega, by omega⟩ hj5)
                rw [← HS0.out] at HOK
                go_wp2_with (go_at_call 10; go_must (refine (Step_s HU.out HOK.out.1 HOK.out.2.1 HOK.out.2.2.1 HOK.out.2.2.2.1 HOK.out.2.2.2.2).mono ?_; rintro e w9 ⟨rfl, h⟩; have HZ2 := Aside0.mk (show ByD (runS pb (j + 1) s0).2 from HZ.out.step HU.out.diskOk HPY.out); have HJ := Aside0.mk (show WalS w w9 gl g (runS pb (j + 1) s0).1 (runS pb (j + 1) s0).2 pb [] from h); clear HU h))
                go_roundw
                case rel => exact ⟨j + 1, by go_num, by omega, HZ2, HJ⟩
                case measure => simp [intOf]; omega
              · have q5 : decide ((j : Int) < 5) = false := decide_eq_false (by omega)
                obtain rfl : j = 5 := by omega
                have HQ5 := Aside0.mk (show (runS pb 5 s0).2.q.length = 0 by rw [HS0.out]; rfl)
                have HV := Aside0.mk (show View (runS pb 5 s0).2 (slotB 2 1) (slotB 1 0) (List.replicate 29984 0) (pb ++ List.replicate (29984 - pb.length) 0) tl 29984 by rw [HS0.out]; exact run_viewZ HV0.out (by omega))
                obtain ⟨D5, hD5⟩ : ∃ D5, D5 = (runS pb 5 s0).2 := ⟨_, rfl⟩
                rw [← hD5] at HU HQ5 HV HZ
                clear hD5
                obtain ⟨L5, hL5⟩ : ∃ L5, L5 = (runS pb 5 s0).1 := ⟨_, rfl⟩
                rw [← hL5] at HU
                clear hL5
                obtain ⟨zs, hzs⟩ : ∃ zs : List Int, zs = List.replicate 29984 0 := ⟨_, rfl⟩
                obtain ⟨a1, ha1⟩ : ∃ a1 : List Int, a1 = pb ++ List.replicate (29984 - pb.length) 0 := ⟨_, rfl⟩
                have HA0 := Aside0.mk (show D5.read (plc D5 0 0) (Sz D5) = zs by rw [hzs]; exact HV.out.areaB0)
                have HA1 := Aside0.mk (show D5.read (plc D5 1 0) (Sz D5) = a1 by rw [ha1]; exact HV.out.areaB1)
                have HR0 := Aside0.mk (show AreaR zs 0 0 from areaR_zero hzs)
                have HR1 := Aside0.mk (show AreaR a1 l1.length pb.length from areaR_parts HL.out HPB.out HPY.out ha1 (by omega))
                obtain ⟨vl, vb, _, h9⟩ := HU.out.disk
                have H9 := Aside0.mk h9
                clear HU h9 hzs ha1 HS0 HV HDO HB0 HV0 HS4 HZ
                go_wp2_with (first
                  | (go_at_call 11; go_must (refine (Areas_here H9.out (by rw [HQ5.out]; omega)).mono ?_; rw [HA0.out, HA1.out]; rintro e w10 ⟨v0, v1, rfl, h⟩; obtain ⟨ga, ca, rfl, ka⟩ := (Here.nth h 1 (by simp)).row (by rw [HR0.out.1]; omega); obtain ⟨gb, cb, rfl, kb⟩ := (Here.nth h 2 (by simp)).row (by show 0 < a1.length; rw [HR1.out.1]; omega); rw [HR0.out.1, show a1.length = 29984 from HR1.out.1] at h ⊢; have H10 := Aside0.mk (h.newCells #[.slice (some ⟨ga, 0, none⟩) 29984 ca, .slice (some ⟨gb, 0, none⟩) 29984 cb] 49); clear h ka kb H9)))
                obtain ⟨bb, hbb⟩ : ∃ bb, bb = w10.heap.size := ⟨_, rfl⟩
                obtain ⟨Ls, hLs⟩ : ∃ Ls : List Thing, Ls = CellsT bb #[.slice (some ⟨ga, 0, none⟩) 29984 ca, .slice (some ⟨gb, 0, none⟩) 29984 cb] 49 :: DiskT g D5 :: BytesT (.slice (some ⟨ga, 0, none⟩) 29984 ca) zs :: BytesT (.slice (some ⟨gb, 0, none⟩) 29984 cb) a1 :: LogT gl g L5 vl :: BytesT vb pb :: [] := ⟨_, rfl⟩
                have HLS := Aside0.mk hLs
                have HA := Aside0.mk (show Here w (w10.alloc (.cells #[.slice (some ⟨ga, 0, none⟩) 29984 ca, .slice (some ⟨gb, 0, none⟩) 29984 cb] 49)) Ls by rw [hLs, hbb]; exact H10.out)
                have HSEL := Aside0.mk (sel_two (w := w) hLs HR0.out HR1.out)
                clear H10 hLs HR0 HR1 HA0 HA1
                rw [← hbb]
                clear hbb
                go_loopw [15] (fun v15 wr => ∃ (k : Nat), v15 = .int .i64 k ∧ k ≤ 2 ∧ Aside0 (Here w wr Ls)) (fun v15 _ => 2 - (intOf v15).toNat)
                case atStart => exact ⟨0, rfl, by omega, HA⟩
                case round =>
                  clear HA
                  obtain ⟨k, rfl, hk, HI⟩ := hrel
                  by_cases hlt : k < 2
                  · have q6 : decide ((k : Int) < 2) = true := decide_eq_true (by omega)
                    have u6 : IntKind.i64.wrap ((k : Int) + 1) = (k : Int) + 1 := IntWalk.i64_in _ ⟨by omega, by omega⟩
                    obtain ⟨gx, cx, A, m, n, hAR, hsel⟩ := HSEL.out k hlt
                    have HSE := Aside0.mk hsel
                    obtain ⟨hAl, ⟨R, hRm, hRk, hRr⟩, hAy, hAn, hAz⟩ := hAR
                    have HAZ := Aside0.mk hAz
                    have HRM := Aside0.mk hRm
                    have HRK := Aside0.mk hRk
                    have HRR := Aside0.mk hRr
                    have HAL := Aside0.mk hAl
                    have HAY := Aside0.mk hAy
                    have e0 := (HSE.out _ HI.out).1
                    clear hsel hAl hRm hRk hRr hAy hAz
                    go_wp2_with (first
                      | (go_at_call 12; go_must (refine (ReadF_n HI.out (some ⟨gx, 0, none⟩) 29984 cx A HAL.out.symm (bytes_of (HSE.out _ HI.out).2.choose_spec) (by rw [HAL.out]; exact (OwnB.cap (HSE.out _ HI.out).2.choose_spec.bytes).2) HAY.out (by rw [HAL.out]; omega)).mono ?_; rw [HRR.out]; rintro e w12 ⟨v, rfl, h⟩; obtain ⟨A5, c5, rfl, _, _⟩ := h.recs; rw [HRM.out] at h ⊢; have HT := Aside0.mk h; clear h e0)))
                    have HCA := Aside0.mk (recs_of HT.out)
                    have HM9 := Aside0.mk HCA.out.2.1
                    have hm9 : m ≤ 9223372036854775807 := by rw [← HRM.out]; exact HM9.out
                    clear q6 HI
                    obtain ⟨wo, hwo⟩ : ∃ wo, wo = wr := ⟨_, rfl⟩
                    subst hwo
                    go_loopw [19] (fun v19 wr => ∃ (j : Nat), v19 = .int .i64 j ∧ j ≤ m ∧ Aside0 (Here w wr (RecsT (.slice A5 m c5) R :: Ls))) (fun v19 _ => m - (intOf v19).toNat)
                    case atStart => exact ⟨0, rfl, by omega, HT⟩
                    case round =>
                      clear HT HCA HM9
                      obtain ⟨j, rfl, hj, HT⟩ := hrel
                      by_cases hjm : j < m
                      · have q7 : decide ((j : Int) < (m : Int)) = true := decide_eq_true (by omega)
                        have u7 : IntKind.i64.wrap ((j : Int) + 1) = (j : Int) + 1 := IntWalk.i64_in _ ⟨by omega, by omega⟩
                        obtain ⟨ad, A8, c8, hA5, r0, _, _, _⟩ := atR (recs_of HT.out) j (by rw [HRM.out]; exact hjm) rfl
                        subst hA5
                        rw [HRK.out j (by rw [HRM.out]; exact hjm)] at r0
                        go_wp2_with fail
                        go_roundw
                        case rel => exact ⟨j + 1, by go_num, by omega, HT⟩
                        case measure => simp [intOf]; omega
                      · have q7 : decide ((j : Int) < (m : Int)) = false := decide_eq_false (by omega)
                        obtain rfl : j = m := by omega
                        have HA := Aside0.mk HT.out.drop
                        clear HT
                        go_wp2_with fail
                        obtain ⟨wo2, hwo2⟩ : ∃ wo2, wo2 = wr := ⟨_, rfl⟩
                        subst hwo2
                        clear q7
                        go_loopw [20] (fun v20 wr => ∃ (p : Nat), v20 = .int .i64 p ∧ n ≤ p ∧ p ≤ 29984 ∧ Aside0 (Here w wr Ls)) (fun v20 _ => 29984 - (intOf v20).toNat)
                        case atStart => exact ⟨n, rfl, by omega, by omega, HA⟩
                        case round =>
                          clear HA
                          obtain ⟨p, rfl, hnp, hp, HI⟩ := hrel
                          have e0 := (HSE.out _ HI.out).1
                          by_cases hpl2 : p < 29984
                          · have q8 : decide ((p : Int) < 29984) = true := decide_eq_true (by omega)
                            have u8 : IntKind.i64.wrap ((p : Int) + 1) = (p : Int) + 1 := IntWalk.i64_in _ ⟨by omega, by omega⟩
                            obtain ⟨b0, _⟩ := (HSE.out _ HI.out).2.choose_spec.byteAt p hpl2
                            rw [HAZ.out p hnp] at b0
                            go_wp2_with fail
                            go_roundw
                            case rel => exact ⟨p + 1, by go_num, by omega, by omega, HI⟩
                            case measure => simp [intOf]; omega
                          · have q8 : decide ((p : Int) < 29984) = false := decide_eq_false (by omega)
                            go_wp2_with fail
                            go_roundw
                            case rel => exact ⟨k + 1, by go_num, by omega, HI⟩
                            case measure => simp [intOf]; omega
                  · have q6 : decide ((k : Int) < 2) = false := decide_eq_false (by omega)
                    go_wp2_with (first
                      | (go_at_call 5; go_must (refine (alive16 _).mono ?_; rintro e w9 ⟨rfl, hb⟩; have HF := Aside0.mk (HI.out.then_ hb); clear HI hb)))
                    go_ret
                    exact ⟨rfl, HF.out.below⟩
end Go.Proofs.YtmapdfommjcebaaGreat.Own
