/- The walk of WalRoom: whatever its arguments, it comes to true. -/
import Derived.Test.YtmbemlpmfklddaaLog7
import Derived.Test.YtmbemlpmfklddaaLog8
namespace Go.Proofs.Ytmbemlpmfklddaa.Own
open Go.RowKit Go.Proofs.YtmbemlpmfklddaaW.PrintWords Go.Proofs.YtmbemlpmfklddaaW.PrintLast Go.Proofs.YtmbemlpmfklddaaW.PrintMore
/-- The log of WalRoom and its disk, behind i appends. -/
structure RoomI (x : Lg) (d : Dm) (r i : Nat) : Prop where
  gen : x.gen = 1
  area : x.area = 0
  stage : x.stage = 0
  tail : x.tail + r = 1484
  sz : Sz d = 1484
  all : x.all ≤ i
  q : d.q.length ≤ i
theorem RoomI.start : RoomI ⟨1, 0, 0, 0, 0, 0⟩ (Dm.new 3000).format 1484 0 := by
  have ho : (Dm.new 3000).Ok := Dm.ok_new (by omega) (by omega)
  have h1 : ((Dm.new 3000).write 0 (List.replicate (Dm.new 3000).b.length 0)).Ok := Dm.ok_write ho ⟨by omega, by omega, by rw [List.length_replicate]; omega⟩
  have hb : (Dm.new 3000).b.length = 3000 := List.length_replicate
  have h2 : (((Dm.new 3000).write 0 (List.replicate (Dm.new 3000).b.length 0)).write 16 (slotB 1 0)).Ok := Dm.ok_write h1 ⟨by omega, by omega, by rw [slotB_len]; show _ ≤ ((Dm.new 3000).b.length : Int); rw [hb]; omega⟩
  refine ⟨rfl, rfl, rfl, rfl, ?_, Nat.le_refl _, Nat.le_refl _⟩
  unfold Dm.format
  rw [Sz_flush h2]
  rw [Sz_write, Sz_write]
  unfold Sz
  rw [hb]
/-- What comes of an append. -/
theorem RoomI.app {x : Lg} {d : Dm} {r i : Nat} (h : RoomI x d r i) (b : List Int) :
    ((appE x d b).2 = 0 ∧ b.length + 9 ≤ r ∧ RoomI (appL x d b) (appD x d b) (r - b.length - 9) (i + 1)) ∨ ((appE x d b).2 = 3 ∧ RoomI (appL x d b) (appD x d b) r (i + 1)) ∨ ((appE x d b).2 = 5 ∧ r < b.length + 9 ∧ RoomI (appL x d b) (appD x d b) r (i + 1)) := by
  have h1 := h.tail
  have h2 := h.sz
  have h3 := h.all
  have h4 := h.q
  have keep : RoomI x d r (i + 1) := ⟨h.gen, h.area, h.stage, h.tail, h.sz, by omega, by omega⟩
  rcases appE_cases x d b with ⟨_, he⟩ | ⟨_, hs, _⟩ | ⟨_, _, hf, he⟩ | ⟨_, _, hf, he⟩
  · refine .inr (.inl ⟨by rw [he], ?_⟩)
    unfold appL appD
    rw [he]
    exact keep
  · exact absurd h.stage hs
  · refine .inr (.inr ⟨by rw [he], by omega, ?_⟩)
    unfold appL appD
    rw [he]
    exact keep
  · refine .inl ⟨by rw [he], by omega, ?_⟩
    unfold appL appD
    rw [he]
    exact ⟨h.gen, h.area, h.stage, by show x.tail + b.length + 9 + (r - b.length - 9) = 1484; omega, by rw [if_pos rfl, Sz_write]; exact h2, by show x.all + 1 ≤ i + 1; omega, by rw [if_pos rfl]; simp only [Dm.write, List.length_append, List.length_singleton]; omega⟩
theorem frames_take {L : List (List Int)} {i : Nat} (hi : i < L.length) : (framesOf (recsOf 1 (L.take (i + 1)))).length = (framesOf (recsOf 1 (L.take i))).length + (L[i].length + 9) := by
  rw [recs_take hi, framesOf_append, List.length_append, framesOf_one, frameR_len]
theorem great_no {n : Nat} {L : List (List Int)} (h : ¬ greatR n L) : n ≤ 1900 ∧ L.length ≤ 5 ∧ ∀ p ∈ L, p.length ≤ 1000 := by
  unfold greatR at h
  refine ⟨by omega, by omega, fun p hp => ?_⟩
  by_cases hc : p.length ≤ 1000
  · exact hc
  · exact absurd (.inr (.inr ⟨p, hp, by omega⟩)) h
theorem cells_of_below {W W' : World} {p : Addr} {v : Value} (h : W.cell? p = some v) (hb : Below W.heap.size W W') : W'.cell? p = some v := pw_cell_below hb h
theorem Sz_step {x : Lg} {d : Dm} (ho : d.Ok) (parts : List Int) : Sz (stepD x d parts) = Sz d := by
  unfold stepD
  split
  · rfl
  · rw [Sz_write, Sz_flush ho]
  · rw [Sz_write, Sz_flush ho]
  · rw [Sz_write, Sz_flush ho]
  · rw [Sz_write, Sz_flush ho]
  · exact Sz_flush ho
/-- What Begin answers behind a Sync. -/
theorem RoomI.begin {x : Lg} {d : Dm} {r i : Nat} (h : RoomI x d r i) (ho : d.Ok) (L : List (List Int)) :
    (1484 < (framesOf (recsOf 1 L)).length ∧ begE { x with sure := x.all } d.flush L = 5) ∨
    ((framesOf (recsOf 1 L)).length ≤ 1484 ∧ begE { x with sure := x.all } d.flush L = 0 ∧ begL { x with sure := x.all } d.flush L = ⟨1, 0, x.tail, x.all, x.all, 1⟩ ∧ begP { x with sure := x.all } d.flush [] L = framesOf (recsOf 1 L)) := by
  have hs := Sz_flush ho
  rw [h.sz] at hs
  have hn : ¬ (x.stage ≠ 0 ∨ x.all < x.all) := by have := h.stage; omega
  by_cases hc : 1484 < (framesOf (recsOf 1 L)).length
  · refine .inl ⟨hc, ?_⟩
    unfold begE
    rw [if_neg hn, if_pos (by rw [hs]; exact hc)]
  · have he : begE { x with sure := x.all } d.flush L = 0 := by
      unfold begE
      rw [if_neg hn, if_neg (by rw [hs]; exact hc)]
    refine .inr ⟨by omega, he, ?_, ?_⟩
    · unfold begL
      rw [if_pos he, h.gen, h.area]
    · unfold begP
      rw [if_pos he]
theorem room_r {w W : World} {gl g : Nat} {x : Lg} {d : Dm} {parts : List Int} {Ps : List Thing} {r : Nat} (h : WalS w W gl g x d parts Ps) (ht : x.tail ≤ Sz d) (hr : Sz d - x.tail = r) (n : Nat) :
    Calls Try.prog 53 #[.pointer (some ⟨gl, 0, none⟩)] (W.drewN n) fun e W' => e = .returned (.int .i64 r) ∧ ∃ m, W' = W.drewN m := by
  subst hr
  exact RoomS_q h ht n
set_option maxHeartbeats 8000000 in
set_option maxRecDepth 100000 in
theorem WalRoom_calls (A0 : Option Addr) (c0 : Nat) (l0 : List (List Int)) (A1 : Option Addr) (c1 : Nat) (l1 : List (List Int)) (w : World) (h0 : BL.C w A0 l0.length l0) (h1 : BL.C w A1 l1.length l1) :
    Calls Try.prog 13 #[.slice A0 l0.length c0, .slice A1 l1.length c1] w fun e w' => e = .returned (.bool true) ∧ Below w.heap.size w w' := by
  have hu83 := Try.underlying83
  have HH := Aside0.mk (Here.nil w)
  have H0 := Aside0.mk h0
  have H1 := Aside0.mk h1
  have m0 := h0.2.1
  have m1 := h1.2.1
  clear h0 h1
  by_cases hgr : greatR 0 l1
  · have hd : decide (greatR 0 l1) = true := decide_eq_true hgr
    clear hgr
    go_enter Try.func13, Try.ntmps13
    go_wp2_with (first
      | (go_at_call 20; go_must (refine (New_here HH.out 3000 (by omega) (by omega)).mono ?_; rintro e w1 ⟨g, rfl, h⟩; have HD := Aside0.mk h; clear HH h))
      | (go_at_call 44; go_must (refine (Great_calls 0 0 none 0 0 A1 c1 l1 _ (Kd.C_below H1.out HD.out.below)).mono ?_; rw [hd]; rintro e w2 ⟨rfl, hb⟩; have HE := Aside0.mk (HD.out.then_ hb); clear HD hb))
      | (go_at_call 36; go_must (refine (alive14 _).mono ?_; rintro e w3 ⟨rfl, hb⟩; have HF := Aside0.mk (HE.out.then_ hb); clear HE hb)))
    go_ret
    exact ⟨rfl, HF.out.below⟩
  · have hd : decide (greatR 0 l1) = false := decide_eq_false hgr
    obtain ⟨_, hl5, hl1000⟩ := great_no hgr
    have HL := Aside0.mk hl1000
    clear hgr hl1000
    go_enter Try.func13, Try.ntmps13
    go_wp2_with (first
      | (go_at_call 20; go_must (refine (New_here HH.out 3000 (by omega) (by omega)).mono ?_; rintro e w1 ⟨g, rfl, h⟩; have HD := Aside0.mk h; clear HH h))
      | (go_at_call 44; go_must (refine (Great_calls 0 0 none 0 0 A1 c1 l1 _ (Kd.C_below H1.out HD.out.below)).mono ?_; rw [hd]; rintro e w2 ⟨rfl, hb⟩; have HE := Aside0.mk (HD.out.then_ hb); clear HD hb))
      | (go_at_call 45; go_must (refine (Format_here HE.out (by simp [Dm.new])).mono ?_; rintro e w3 ⟨gl, rfl, h⟩; have HF := Aside0.mk (WalS.fresh h rfl); clear HE h))
      | (go_at_call 53; go_must (refine (Room_s HF.out (Nat.zero_le _)).mono ?_; rw [RoomI.start.sz]; rintro e w4 ⟨rfl, h⟩; have HG := Aside0.mk h; clear HF h)))
    have HQ := Aside0.mk RoomI.start
    obtain ⟨x0, hx0⟩ : ∃ x0 : Lg, x0 = ⟨1, 0, 0, 0, 0, 0⟩ := ⟨_, rfl⟩
    obtain ⟨d0, hd0⟩ : ∃ d0 : Dm, d0 = (Dm.new 3000).format := ⟨_, rfl⟩
    rw [← hx0, ← hd0] at HG HQ
    clear hx0 hd0 hd
    have t1 : True := trivial
    go_loopw [9] (fun v9 wr => ∃ (i r : Nat) (x : Lg) (d : Dm), v9 = .int .i64 i ∧ i ≤ l0.length ∧ i ≤ 40 ∧ r ≤ 1484 ∧ Aside0 (RoomI x d r i) ∧ Aside0 (WalS w wr gl g x d [] [])) (fun v9 _ => l0.length - (intOf v9).toNat)
    case atStart => exact ⟨0, 1484, x0, d0, rfl, by omega, by omega, by omega, HQ, HG⟩
    case round =>
      clear HQ HG
      obtain ⟨i, r, x, d, rfl, hi, hi40, hr, HQ, HI⟩ := hrel
      have u1 : IntKind.i64.wrap ((i : Int) + 1) = (i : Int) + 1 := IntWalk.i64_in _ ⟨by omega, by omega⟩
      have HRM := Aside0.mk (show Sz d - x.tail = r by have h1 := HQ.out.tail; have h2 := HQ.out.sz; omega)
      have HTL := Aside0.mk (show x.tail ≤ Sz d by have h1 := HQ.out.tail; have h2 := HQ.out.sz; omega)
      by_cases hlt : i < l0.length ∧ i < 40
      · obtain ⟨hl, h40⟩ := hlt
        have q1 : decide ((i : Int) < (l0.length : Int)) = true := decide_eq_true (by omega)
        have q2 : decide ((i : Int) < 40) = true := decide_eq_true (by omega)
        obtain ⟨ad, A3, c3, rfl, e0, k3, C3⟩ := atRows H0.out i hl rfl
        have E0 := Aside0.mk e0
        have HC3 := Aside0.mk C3
        generalize l0[i] = b at E0 e0 k3 HC3
        replace e0 := pw_cell_below HI.out.below e0
        clear C3
        by_cases hb : 1900 < b.length
        · have q3 : decide ((1900 : Int) < (b.length : Int)) = true := decide_eq_true (by omega)
          clear e0
          go_wp2_with (first
            | (go_at_call 53; go_must (refine (Room_s HI.out HTL.out).mono ?_; rw [HRM.out]; rintro e w5 ⟨rfl, h⟩; have HJ := Aside0.mk h; have e0 := pw_cell_below HJ.out.below E0.out; clear HI h))
            | (go_at_call 36; go_must (refine (alive14 _).mono ?_; rintro e w6 ⟨rfl, hb⟩; have HF := Aside0.mk (HJ.out.then_ hb); clear HJ hb)))
          go_ret
          exact ⟨rfl, HF.out.below⟩
        · have q3 : decide ((1900 : Int) < (b.length : Int)) = false := decide_eq_false (by omega)
          have HAL := Aside0.mk (show x.all ≤ 1000000 by have h1 := HQ.out.all; omega)
          have HQL := Aside0.mk (show d.q.length ≤ 1000000 by have h1 := HQ.out.q; omega)
          have HAR := Aside0.mk (show x.area ≤ 1 by have h1 := HQ.out.area; omega)
          rcases HQ.out.app b with ⟨he, hle, hn⟩ | ⟨he, hn⟩ | ⟨he, hlt, hn⟩
          · have HE := Aside0.mk he
            have HN := Aside0.mk hn
            clear he hn e0
            go_wp2_with (first
              | (go_at_call 53; have _t := t1; clear t1; go_must (refine (Room_s HI.out HTL.out).mono ?_; rw [HRM.out]; rintro e w5 ⟨rfl, h⟩; have HJ := Aside0.mk h; have e0 := pw_cell_below HJ.out.below E0.out; clear HI h))
              | (go_at_call 46; go_must (refine (Append_s HJ.out HQL.out A3 b.length c3 b rfl (Kd.C_below HC3.out HJ.out.below) k3 HTL.out HAR.out HAL.out).mono ?_; rw [HE.out]; rintro e w6 ⟨rfl, h⟩; clear e0; have HK := Aside0.mk h; have e0 := pw_cell_below HK.out.below E0.out; clear HJ h)))
            obtain ⟨nr, hnr⟩ : ∃ nr, nr = r - b.length - 9 := ⟨_, rfl⟩
            rw [← hnr] at HN
            have u2 : IntKind.i64.wrap ((r : Int) - (b.length : Int)) = (r : Int) - (b.length : Int) := IntWalk.i64_in _ ⟨by omega, by omega⟩
            have u3 : IntKind.i64.wrap ((r : Int) - (b.length : Int) - 9) = (nr : Int) := by
              rw [show (r : Int) - (b.length : Int) - 9 = (nr : Int) by omega]
              exact IntWalk.i64_in _ ⟨by omega, by omega⟩
            go_wp2_with (first
              | (go_at_call 53; have _t := t1; clear t1; go_must (refine (Room_s HI.out HTL.out).mono ?_; rw [HRM.out]; rintro e w5 ⟨rfl, h⟩; have HJ := Aside0.mk h; have e0 := pw_cell_below HJ.out.below E0.out; clear HI h))
              | (go_at_call 46; go_must (refine (Append_s HJ.out HQL.out A3 b.length c3 b rfl (Kd.C_below HC3.out HJ.out.below) k3 HTL.out HAR.out HAL.out).mono ?_; rw [HE.out]; rintro e w6 ⟨rfl, h⟩; clear e0; have HK := Aside0.mk h; have e0 := pw_cell_below HK.out.below E0.out; clear HJ h)))
            have HT2 := Aside0.mk (show (appL x d b).tail ≤ Sz (appD x d b) by have h1 := HN.out.tail; have h2 := HN.out.sz; omega)
            have HR2 := Aside0.mk (show Sz (appD x d b) - (appL x d b).tail = nr by have h1 := HN.out.tail; have h2 := HN.out.sz; omega)
            clear HTL HRM HAL HQL HAR HC3 k3 u1 q1 q2 HQ HL
            go_quiet (first | (go_at_call 53; exact room_r HK.out HT2.out HR2.out _))
            have HM := Aside0.mk (HK.out.then_ (pw_below_drewN (Below.refl _ _) nq))
            have u1 : IntKind.i64.wrap ((i : Int) + 1) = (i : Int) + 1 := IntWalk.i64_in _ ⟨by omega, by omega⟩
            go_wp2_with fail
            go_roundw
            case rel => exact ⟨i + 1, nr, appL x d b, appD x d b, by go_num, by omega, by omega, by omega, HN, HM⟩
            case measure => simp [intOf]; omega
          · have HE := Aside0.mk he
            have HN := Aside0.mk hn
            clear he hn e0
            obtain ⟨nr, hnr⟩ : ∃ nr, nr = r := ⟨_, rfl⟩
            subst hnr
            go_wp2_with (first
              | (go_at_call 53; have _t := t1; clear t1; go_must (refine (Room_s HI.out HTL.out).mono ?_; rw [HRM.out]; rintro e w5 ⟨rfl, h⟩; have HJ := Aside0.mk h; have e0 := pw_cell_below HJ.out.below E0.out; clear HI h))
              | (go_at_call 46; go_must (refine (Append_s HJ.out HQL.out A3 b.length c3 b rfl (Kd.C_below HC3.out HJ.out.below) k3 HTL.out HAR.out HAL.out).mono ?_; rw [HE.out]; rintro e w6 ⟨rfl, h⟩; clear e0; have HK := Aside0.mk h; have e0 := pw_cell_below HK.out.below E0.out; clear HJ h)))
            have HT2 := Aside0.mk (show (appL x d b).tail ≤ Sz (appD x d b) by have h1 := HN.out.tail; have h2 := HN.out.sz; omega)
            have HR2 := Aside0.mk (show Sz (appD x d b) - (appL x d b).tail = nr by have h1 := HN.out.tail; have h2 := HN.out.sz; omega)
            clear HTL HRM HAL HQL HAR HC3 k3 u1 q1 q2 HQ HL
            go_quiet (first | (go_at_call 53; exact room_r HK.out HT2.out HR2.out _))
            have HM := Aside0.mk (HK.out.then_ (pw_below_drewN (Below.refl _ _) nq))
            have u1 : IntKind.i64.wrap ((i : Int) + 1) = (i : Int) + 1 := IntWalk.i64_in _ ⟨by omega, by omega⟩
            go_wp2_with fail
            go_roundw
            case rel => exact ⟨i + 1, nr, appL x d b, appD x d b, by go_num, by omega, by omega, by omega, HN, HM⟩
            case measure => simp [intOf]; omega
          · have HE := Aside0.mk he
            have HN := Aside0.mk hn
            clear he hn e0
            obtain ⟨nr, hnr⟩ : ∃ nr, nr = r := ⟨_, rfl⟩
            subst hnr
            have u4 : IntKind.i64.wrap ((b.length : Int) + 9) = (b.length : Int) + 9 := IntWalk.i64_in _ ⟨by omega, by omega⟩
            have q4 : decide ((b.length : Int) + 9 ≤ (nr : Int)) = false := decide_eq_false (by omega)
            go_wp2_with (first
              | (go_at_call 53; have _t := t1; clear t1; go_must (refine (Room_s HI.out HTL.out).mono ?_; rw [HRM.out]; rintro e w5 ⟨rfl, h⟩; have HJ := Aside0.mk h; have e0 := pw_cell_below HJ.out.below E0.out; clear HI h))
              | (go_at_call 46; go_must (refine (Append_s HJ.out HQL.out A3 b.length c3 b rfl (Kd.C_below HC3.out HJ.out.below) k3 HTL.out HAR.out HAL.out).mono ?_; rw [HE.out]; rintro e w6 ⟨rfl, h⟩; clear e0; have HK := Aside0.mk h; have e0 := pw_cell_below HK.out.below E0.out; clear HJ h)))
            have HT2 := Aside0.mk (show (appL x d b).tail ≤ Sz (appD x d b) by have h1 := HN.out.tail; have h2 := HN.out.sz; omega)
            have HR2 := Aside0.mk (show Sz (appD x d b) - (appL x d b).tail = nr by have h1 := HN.out.tail; have h2 := HN.out.sz; omega)
            clear HTL HRM HAL HQL HAR HC3 k3 u1 q1 q2 HQ HL
            go_quiet (first | (go_at_call 53; exact room_r HK.out HT2.out HR2.out _))
            have HM := Aside0.mk (HK.out.then_ (pw_below_drewN (Below.refl _ _) nq))
            have u1 : IntKind.i64.wrap ((i : Int) + 1) = (i : Int) + 1 := IntWalk.i64_in _ ⟨by omega, by omega⟩
            go_wp2_with fail
            go_roundw
            case rel => exact ⟨i + 1, nr, appL x d b, appD x d b, by go_num, by omega, by omega, by omega, HN, HM⟩
            case measure => simp [intOf]; omega
      · have hw : (decide ((i : Int) < (l0.length : Int)) = false ∧ ¬ i < l0.length) ∨ (decide ((i : Int) < (l0.length : Int)) = true ∧ i < l0.length ∧ decide ((i : Int) < 40) = false ∧ ¬ i < 40) := by
          by_cases h1 : i < l0.length
          · exact .inr ⟨decide_eq_true (by omega), h1, decide_eq_false (by omega), by omega⟩
          · exact .inl ⟨decide_eq_false (by omega), h1⟩
        have HQL := Aside0.mk (show d.q.length ≤ 1000000 by have h1 := HQ.out.q; omega)
        have hdo := HI.out.diskOk
        have HDO := Aside0.mk (Dm.ok_flush hdo)
        have HBG := Aside0.mk (HQ.out.begin hdo l1)
        have HS4 := Aside0.mk (show Sz d.flush = 1484 by rw [Sz_flush hdo]; exact HQ.out.sz)
        obtain ⟨fl, hfl⟩ : ∃ fl : Nat → Nat, fl = fun k => (framesOf (recsOf 1 (l1.take k))).length := ⟨_, rfl⟩
        have HF0 := Aside0.mk (show fl 0 = 0 by rw [hfl]; rfl)
        have HFS := Aside0.mk (show ∀ k (hk : k < l1.length), fl (k + 1) = fl k + (l1[k].length + 9) by rw [hfl]; exact fun k hk => frames_take hk)
        have HFE := Aside0.mk (show fl l1.length = (framesOf (recsOf 1 l1)).length by rw [hfl]; simp only [List.take_length])
        clear hfl hlt hdo u1
        rcases hw with ⟨q1, q2⟩ | ⟨q1, q2, q3, q4⟩
        all_goals
          go_wp2_with (go_at_call 47; go_must (refine (Sync_s HI.out HQL.out).mono ?_; rintro e w8 ⟨rfl, h⟩; have HS := Aside0.mk h; clear HI h))
          go_loopw [13, 14] (fun v13 v14 wr => ∃ (k f : Nat), v14 = .int .i64 k ∧ k ≤ l1.length ∧ f ≤ k * 1009 ∧ v13 = .int .i64 (1484 - (f : Int)) ∧ Aside0 (f = fl k) ∧ Aside0 (WalS w wr gl g { x with sure := x.all } d.flush [] [])) (fun _ v14 _ => l1.length - (intOf v14).toNat)
          case atStart => exact ⟨0, 0, rfl, by omega, by omega, rfl, ⟨HF0.out.symm⟩, HS⟩
          case round =>
            clear HS
            obtain ⟨k, f, rfl, hk, hf, rfl, HK, HT⟩ := hrel
            by_cases hlt : k < l1.length
            · have q3 : decide ((k : Int) < (l1.length : Int)) = true := decide_eq_true (by omega)
              have u1 : IntKind.i64.wrap ((k : Int) + 1) = (k : Int) + 1 := IntWalk.i64_in _ ⟨by omega, by omega⟩
              obtain ⟨ad, A3, c3, hA, e0, k3, _⟩ := atRows H1.out k hlt rfl
              subst hA
              replace e0 := pw_cell_below HT.out.below e0
              have hp := HL.out _ (List.getElem_mem hlt)
              have HF2 := Aside0.mk (HFS.out k hlt)
              generalize l1[k].length = p at e0 hp HF2 k3
              have u2 : IntKind.i64.wrap (1484 - (f : Int) - (p : Int)) = 1484 - (f : Int) - (p : Int) := IntWalk.i64_in _ ⟨by omega, by omega⟩
              have u3 : IntKind.i64.wrap (1484 - (f : Int) - (p : Int) - 9) = 1484 - (f : Int) - (p : Int) - 9 := IntWalk.i64_in _ ⟨by omega, by omega⟩
              go_wp2_with fail
              go_roundw
              case rel => exact ⟨k + 1, f + (p + 9), by go_num, by omega, by omega, congrArg (Value.int .i64) (by omega), ⟨by rw [HF2.out, HK.out]⟩, HT⟩
              case measure => simp [intOf]; omega
            · have q3 : decide ((k : Int) < (l1.length : Int)) = false := decide_eq_false (by omega)
              obtain rfl : k = l1.length := by omega
              have HN := Aside0.mk (show f = (framesOf (recsOf 1 l1)).length by rw [HK.out, HFE.out])
              rcases HBG.out with ⟨hb, he⟩ | ⟨hb, he, hL, hP⟩
              · have HE := Aside0.mk he
                have q5 : decide (1484 - (f : Int) < 0) = true := decide_eq_true (by have h9 := HN.out; omega)
                clear he
                go_wp2_with (first
                  | (go_at_call 48; go_must (refine (Begin_s HT.out A1 l1.length c1 l1 rfl (Kd.C_below H1.out HT.out.below) (by omega) (fun p hp => by have h9 := HL.out p hp; omega)).mono ?_; rw [HE.out]; rintro e w9 ⟨rfl, h⟩; have HU := Aside0.mk h; clear HT h))
                  | (go_at_call 36; go_must (refine (alive14 _).mono ?_; rintro e w6 ⟨rfl, hb⟩; have HF := Aside0.mk (HU.out.then_ hb); clear HU hb)))
                go_ret
                exact ⟨rfl, HF.out.below⟩
              · have HE := Aside0.mk he
                have HLE := Aside0.mk hL
                have HPE := Aside0.mk hP
                obtain ⟨pb, hpb⟩ : ∃ pb, pb = framesOf (recsOf 1 l1) := ⟨_, rfl⟩
                obtain ⟨s0, hs0⟩ : ∃ s0 : Lg × Dm, s0 = (⟨1, 0, x.tail, x.all, x.all, 1⟩, d.flush) := ⟨_, rfl⟩
                have HFN := Aside0.mk (show f = pb.length by rw [hpb]; exact HN.out)
                have HPB := Aside0.mk hpb
                have HS0 := Aside0.mk hs0
                have hfb : f ≤ 1484 := by have h9 := HN.out; omega
                clear he hL hP hpb hs0 hb
                go_wp2_with (first
                  | (go_at_call 48; go_must (refine (Begin_s HT.out A1 l1.length c1 l1 rfl (Kd.C_below H1.out HT.out.below) (by omega) (fun p hp => by have h9 := HL.out p hp; omega)).mono ?_; rw [HE.out, HLE.out, HPE.out]; rintro e w9 ⟨rfl, h⟩; have HU := Aside0.mk (show WalS w w9 gl g (runS pb 0 s0).1 (runS pb 0 s0).2 pb [] by rw [HS0.out, HPB.out]; exact h); clear HT h)))
                have HZ0 := Aside0.mk (show Sz (runS pb 0 s0).2 = 1484 by rw [HS0.out]; exact HS4.out)
                go_loopw [16] (fun v16 wr => ∃ (j : Nat), v16 = .int .i64 j ∧ j ≤ 5 ∧ Aside0 (Sz (runS pb j s0).2 = 1484) ∧ Aside0 (WalS w wr gl g (runS pb j s0).1 (runS pb j s0).2 pb [])) (fun v16 _ => 5 - (intOf v16).toNat)
                case atStart => exact ⟨0, rfl, by omega, HZ0, HU⟩
                case round =>
                  clear HZ0 HU
                  obtain ⟨j, rfl, hj, HZ, HU⟩ := hrel
                  by_cases hj5 : j < 5
                  · have q5 : decide ((j : Int) < 5) = true := decide_eq_true (by omega)
                    have u5 : IntKind.i64.wrap ((j : Int) + 1) = (j : Int) + 1 := IntWalk.i64_in _ ⟨by omega, by omega⟩
                    have HOK := Aside0.mk (runS_ok (parts := framesOf (recsOf 1 l1)) (gen := 1) (area := 0) (tail := x.tail) (all := x.all) (sure := x.all) HDO.out (by show 0 ≤ 1000000; omega) (by rw [HS4.out]; have h9 := HN.out; omega) (by omega) ⟨by omega, by omega⟩ hj5)
                    rw [← HPB.out, ← HS0.out] at HOK
                    go_wp2_with (go_at_call 49; go_must (refine (Step_s HU.out HOK.out.1 HOK.out.2.1 HOK.out.2.2.1 HOK.out.2.2.2.1 HOK.out.2.2.2.2).mono ?_; rintro e w9 ⟨rfl, h⟩; have HZ2 := Aside0.mk (show Sz (runS pb (j + 1) s0).2 = 1484 from (Sz_step HU.out.diskOk pb).trans HZ.out); have HJ := Aside0.mk (show WalS w w9 gl g (runS pb (j + 1) s0).1 (runS pb (j + 1) s0).2 pb [] from h); clear HU h))
                    go_roundw
                    case rel => exact ⟨j + 1, by go_num, by omega, HZ2, HJ⟩
                    case measure => simp [intOf]; omega
                  · have q5 : decide ((j : Int) < 5) = false := decide_eq_false (by omega)
                    obtain rfl : j = 5 := by omega
                    have HLS := Aside0.mk (show (runS pb 5 s0).1 = ⟨2, 1, pb.length, x.all, x.all, 0⟩ by rw [HS0.out]; exact runS_last pb 1 0 x.tail x.all x.all d.flush)
                    rw [HLS.out] at HU
                    obtain ⟨rm, hrm⟩ : ∃ rm, rm = 1484 - f := ⟨_, rfl⟩
                    have q6 : ((rm : Int) == 1484 - (f : Int)) = true := beq_iff_eq.mpr (by omega)
                    have q7 : (rm : Int) = 1484 - (f : Int) := by omega
                    have HR2 := Aside0.mk (show Sz (runS pb 5 s0).2 - pb.length = rm by rw [HZ.out, hrm, HFN.out])
                    have HT2 := Aside0.mk (show pb.length ≤ Sz (runS pb 5 s0).2 by rw [HZ.out, ← HFN.out]; exact hfb)
                    clear hrm
                    go_wp2_with (first
                      | (go_at_call 36; go_must (refine (alive14 _).mono ?_; rintro e w6 ⟨rfl, hb⟩; have HF := Aside0.mk (HU.out.then_ hb); clear HU hb))
                      | (go_at_call 53; go_must (refine (Room_s HF.out HT2.out).mono ?_; rw [HR2.out]; rintro e w7 ⟨rfl, h⟩; have HM := Aside0.mk h; clear h HF))
                      | (go_at_call 51; go_must (refine (Stage_s HM.out).mono ?_; rintro e w8 ⟨rfl, rfl⟩)))
                    go_ret
                    exact ⟨rfl, HM.out.below⟩
end Go.Proofs.Ytmbemlpmfklddaa.Own
