/- alive of the log's laws: it answers true. -/
import Derived.Test.YtmbemlpmfklddaaLog7
import Derived.Deep.RegionHeldLaw
namespace Go.Proofs.Ytmbemlpmfklddaa.Own
open Go.RowKit Go.Proofs.YtmbemlpmfklddaaW.PrintWords Go.Proofs.YtmbemlpmfklddaaW.PrintLast Go.Proofs.YtmbemlpmfklddaaW.PrintMore
theorem av_in1 {w W : World} {gl g : Nat} {Ps : List Thing} (h : WalS w W gl g (appL ⟨1, 0, 0, 0, 0, 0⟩ av0 [97, 98]) (appD ⟨1, 0, 0, 0, 0, 0⟩ av0 [97, 98]) [] Ps) : WalS w W gl g ⟨1, 0, 11, 1, 0, 0⟩ av1 [] Ps := by
  unfold appL appD at h
  rw [av_app1, if_pos rfl, if_pos rfl] at h
  exact h
theorem av_in2 {w W : World} {gl g : Nat} {Ps : List Thing} (h : WalS w W gl g (appL ⟨1, 0, 11, 1, 1, 0⟩ av2 [99]) (appD ⟨1, 0, 11, 1, 1, 0⟩ av2 [99]) [] Ps) : WalS w W gl g ⟨1, 0, 21, 2, 1, 0⟩ av3 [] Ps := by
  unfold appL appD at h
  rw [av_app2, if_pos rfl, if_pos rfl] at h
  exact h
theorem av_in3 {w W : World} {gl g : Nat} {Ps : List Thing} (h : WalS w W gl g (begL ⟨1, 0, 11, 0, 0, 0⟩ av5 [[115, 116, 97, 116, 101]]) av5 (begP ⟨1, 0, 11, 0, 0, 0⟩ av5 [] [[115, 116, 97, 116, 101]]) Ps) :
    WalS w W gl g (runS avP 0 (⟨1, 0, 11, 0, 0, 1⟩, av5)).1 (runS avP 0 (⟨1, 0, 11, 0, 0, 1⟩, av5)).2 avP Ps := by
  unfold begL begP at h
  rw [av_beg, if_pos rfl, if_pos rfl] at h
  exact h
theorem WalS.disk {w W : World} {gl g : Nat} {x : Lg} {d : Dm} {parts : List Int} {Ps : List Thing} (h : WalS w W gl g x d parts Ps) : ∃ vl vb, (1 ≤ x.stage ∧ x.stage ≤ 4 → vl = vb) ∧ Here w W (DiskT g d :: LogT gl g x vl :: BytesT vb parts :: Ps) := by
  obtain ⟨vl, vb, h1, h⟩ := h
  exact ⟨vl, vb, h1, h.swap⟩
/-- The one element of a row, here and in each world behind. -/
theorem lit_facts {W : World} {A : Option Addr} {l : List Int} {s : ByteArray} (h : BL.C W A 1 [l]) (hs : strOfNums l = s) :
    ∃ ad A4 c4, A = some ad ∧ (∀ W' : World, Below W.heap.size W W' → W'.cell? ad = some (.slice A4 l.length c4) ∧ Sem.run Try.prog (convert 22 9 (.slice A4 l.length c4)) W' = .ok (.string s) W') := by
  subst hs
  obtain ⟨ad, A3, c3, e, x0, _, C3⟩ := atRows h 0 (by simp) rfl
  exact ⟨ad, A3, c3, e, fun W' hb => ⟨pw_cell_below hb x0, Kd.C_string Try.underlying22 Try.underlying5 Try.underlying9 (Kd.C_below C3 hb)⟩⟩
theorem stringS {W : World} {A : Option Addr} {c : Nat} {S : ByteArray} (h : (Kd.int .u8).C W A (List.replicate 184 (0 : Int)).length (List.replicate 184 0)) (hs : S = strOfNums (List.replicate 184 0)) : Sem.run Try.prog (convert 22 9 (.slice A 184 c)) W = .ok (.string S) W := by
  subst hs
  rw [List.length_replicate] at h
  exact Kd.C_string Try.underlying22 Try.underlying5 Try.underlying9 h
theorem str_ab : strOfNums [97, 98] = { data := #[97, 98] } := by decide +kernel
theorem str_state : strOfNums [115, 116, 97, 116, 101] = { data := #[115, 116, 97, 116, 101] } := by decide +kernel
abbrev AvS (W' : World) (a2 a4 : Addr) (g : Nat) (A0 A3 A5 : Option Addr) (c0 c3 c5 : Nat) (S : ByteArray) : Prop :=
  W'.cell? a2 = some (.slice A3 5 c3) ∧ W'.cell? a4 = some (.slice A5 2 c5) ∧ W'.cell? ⟨g, 0, none⟩ = some (.slice A0 184 c0) ∧
    Sem.run Try.prog (convert 22 9 (.slice A3 5 c3)) W' = .ok (.string { data := #[115, 116, 97, 116, 101] }) W' ∧ Sem.run Try.prog (convert 22 9 (.slice A5 2 c5)) W' = .ok (.string { data := #[97, 98] }) W' ∧
    Sem.run Try.prog (convert 22 9 (.slice A0 184 c0)) W' = .ok (.string S) W'
set_option maxHeartbeats 40000000 in
set_option maxRecDepth 100000 in
theorem alive14 (w : World) : Calls Try.prog 36 #[] w fun e w' => e = .returned (.bool true) ∧ Below w.heap.size w w' := by
  have kc := fun (w : World) (C : Array Value) (n c : Nat) => Lib.run_convert_bytes_const (P := Try.prog) w 22 5 C n c Try.underlying22 Try.underlying5
  have HH := Aside0.mk (Here.nil w)
  have SZ := Aside0.mk av_sz
  have t1 : True := trivial
  have t2 : True := trivial
  go_enter Try.func36, Try.ntmps36
  go_wp2_with (first
    | (go_at_call 20; go_must (refine (New_here HH.out 400 (by omega) (by omega)).mono ?_; rintro e w1 ⟨g, rfl, h⟩; have H1 := Aside0.mk h; clear HH h))
    | (go_at_call 45; go_must (refine (Format_here H1.out (by simp [Dm.new])).mono ?_; rintro e w2 ⟨gl, rfl, h⟩; have H2 := Aside0.mk (show WalS w w2 gl g ⟨1, 0, 0, 0, 0, 0⟩ av0 [] [] from WalS.fresh h rfl); clear H1 h))
    | (go_at_call 46; have _t := t1; clear t1; go_must (refine (Append_s (H2.out.alloc _) (by decide +kernel) _ 2 2 [97, 98] rfl (C_lit [97, 98] (heap_at rfl) rfl (by simp)) (by simp) (Nat.zero_le _) (by simp) (by simp)).mono ?_; rw [av_app1]; rintro e w3 ⟨rfl, h⟩; have H3 := Aside0.mk (av_in1 h); clear H2 h))
    | (go_at_call 47; go_must (refine (Sync_s H3.out (by decide +kernel)).mono ?_; rintro e w4 ⟨rfl, h⟩; have H4 := Aside0.mk (show WalS w w4 gl g ⟨1, 0, 11, 1, 1, 0⟩ av2 [] [] from h); clear H3 h))
    | (go_at_call 46; have _t := t2; clear t2; go_must (refine (Append_s (H4.out.alloc _) (by decide +kernel) _ 1 1 [99] rfl (C_lit [99] (heap_at rfl) rfl (by simp)) (by simp) (by decide +kernel) (by simp) (by simp)).mono ?_; rw [av_app2]; rintro e w5 ⟨rfl, h⟩; obtain ⟨vl5, vb5, _, h5⟩ := (av_in2 h).disk; have H5 := Aside0.mk h5; clear H4 h h5))
    | (go_at_call 22; go_must (refine (Crash_here H5.out (by decide +kernel) 3).mono ?_; rintro e w6 ⟨rfl, h⟩; have H6 := Aside0.mk (show Here w w6 (DiskT g av4 :: _) from h); clear H5 h))
    | (go_at_call 40; go_must (refine (Open_yes H6.out (by decide +kernel) av_byt4 1 0 11 [(2, [97, 98])] [] [[97, 98]] av_slots4 (by omega) av_read4 (by simp) (by decide)).mono ?_; rintro e w7 ⟨gl2, vp, vr, rfl, h⟩; obtain ⟨Aq, cq, Ar, cr, rfl, rfl, _, _⟩ := (Here.nth h 2 (by simp)).two; have H7 := Aside0.mk (show WalS w w7 gl2 g ⟨1, 0, 11, 0, 0, 0⟩ av5 [] _ from WalS.fresh h rfl); clear H6 h))
    | (go_at_call 48; go_must (refine (Begin_s ((H7.out.alloc _).alloc _) _ 1 1 [[115, 116, 97, 116, 101]] rfl (BL_lit (l := [115, 116, 97, 116, 101]) (heap_at (by simp)) (by simp) (Kd.C_below (C_lit [115, 116, 97, 116, 101] (heap_at rfl) rfl (by simp)) (below_alloc (Below.refl _ _) _))) (by simp) (by simp)).mono ?_; rw [av_beg]; rintro e w8 ⟨rfl, h⟩; have H8 := Aside0.mk (av_in3 h); clear H7 h)))
  obtain ⟨Qs, hQs⟩ : ∃ Qs : List Thing, Qs = TwoT (.slice Aq ([] : List (List Int)).length cq) [] (.slice Ar [[(97 : Int), 98]].length cr) [[97, 98]] :: LogT gl g ⟨1, 0, 21, 2, 1, 0⟩ vl5 :: BytesT vb5 [] :: [] := ⟨_, rfl⟩
  have H8' := Aside0.mk (show WalS w w8 gl2 g (runS avP 0 (⟨1, 0, 11, 0, 0, 1⟩, av5)).1 (runS avP 0 (⟨1, 0, 11, 0, 0, 1⟩, av5)).2 avP Qs from by rw [hQs]; exact H8.out)
  have HQS := Aside0.mk hQs
  have HO := Aside0.mk (show av5.Ok from H8.out.diskOk)
  obtain ⟨pb, hpb⟩ : ∃ pb, pb = avP := ⟨_, rfl⟩
  obtain ⟨s0, hs0⟩ : ∃ s0 : Lg × Dm, s0 = (⟨1, 0, 11, 0, 0, 1⟩, av5) := ⟨_, rfl⟩
  rw [← hpb, ← hs0] at H8'
  have HPB := Aside0.mk hpb
  have HS0 := Aside0.mk hs0
  clear H8 hQs hpb hs0
  have t3 : True := trivial
  have t4 : True := trivial
  go_loopw [12] (fun v12 wr => ∃ (k : Nat), v12 = .int .i64 k ∧ k ≤ 5 ∧ Aside0 (WalS w wr gl2 g (runS pb k s0).1 (runS pb k s0).2 pb Qs)) (fun v12 _ => 5 - (intOf v12).toNat)
  case atStart => exact ⟨0, rfl, by omega, H8'⟩
  case round =>
    clear H8'
    obtain ⟨k, rfl, hk, HI⟩ := hrel
    by_cases hlt : k < 5
    · have q1 : decide ((k : Int) < 5) = true := decide_eq_true (by omega)
      have u1 : IntKind.i64.wrap ((k : Int) + 1) = (k : Int) + 1 := IntWalk.i64_in _ ⟨by omega, by omega⟩
      have HOK := Aside0.mk (runS_ok (parts := avP) (gen := 1) (area := 0) (tail := 11) (all := 0) (sure := 0) HO.out (by rw [SZ.out.2.1]; omega) (by rw [SZ.out.2.2, SZ.out.1]; omega) (by omega) ⟨by omega, by omega⟩ hlt)
      rw [← HPB.out, ← HS0.out] at HOK
      go_wp2_with (go_at_call 49; go_must (refine (Step_s HI.out HOK.out.1 HOK.out.2.1 HOK.out.2.2.1 HOK.out.2.2.2.1 HOK.out.2.2.2.2).mono ?_; rintro e w9 ⟨rfl, h⟩; have HJ := Aside0.mk (show WalS w w9 gl2 g (runS pb (k + 1) s0).1 (runS pb (k + 1) s0).2 pb Qs from h); clear h HI))
      go_roundw
      case rel => exact ⟨k + 1, by go_num, by omega, HJ⟩
      case measure => simp [intOf]; omega
    · obtain rfl : k = 5 := by omega
      rw [HPB.out, HS0.out, av_run] at HI
      obtain ⟨vl9, vb9, _, h9⟩ := HI.out.disk
      rw [HQS.out] at h9
      have H9 := Aside0.mk h9
      obtain ⟨S, hS⟩ : ∃ S, S = strOfNums (List.replicate 184 0) := ⟨_, rfl⟩
      have HSS := Aside0.mk hS
      have qS : (S.toList == S.toList) = true := beq_self_eq_true _
      have hmk : ∀ W : World, Sem.run Try.prog (Instr.makeSlice 22 (.int .i64 184) (.int .i64 184)) W = .ok (.slice (some ⟨W.heap.size, 0, none⟩) 184 184) (W.alloc (.cells (madeCells #[.int .u8 0] 184) 5)) := print_make (P := Try.prog) 22 5 .u8 1 Try.underlying22 info5 (by omega) 184 (by omega)
      clear HI h9 hS
      go_wp2_with (first
        | (go_at_call 50; go_must (refine (Areas_here H9.out (by decide +kernel)).mono ?_; rw [av_area0]; rintro e w10 ⟨v0, v1, rfl, h⟩; obtain ⟨A0, c0, hv0, k0, _⟩ := (Here.nth h 1 (by simp)).bytes.slice; rw [List.length_replicate] at hv0; subst hv0; obtain ⟨A1, c1, hv1, k1, _⟩ := (Here.nth h 2 (by simp)).bytes.slice; obtain ⟨n1, hn1⟩ : ∃ n1, n1 = (av10.read (plc av10 1 0) (Sz av10)).length := ⟨_, rfl⟩; rw [← hn1] at hv1; clear k1 hn1; subst hv1; have H10 := Aside0.mk ((h.newCells #[.slice A0 184 c0, .slice A1 n1 c1] 90).swap); clear h H9))
        | (go_at_call 40; have _t := t3; clear t3; go_must (refine (Open_yes H10.out (by decide +kernel) av_byt10 2 1 14 [(1, [115, 116, 97, 116, 101])] [[115, 116, 97, 116, 101]] [] av_slots10 (by omega) av_read10 (by simp) (by decide)).mono ?_; rintro e w11 ⟨gl3, vp2, vr2, rfl, h⟩; obtain ⟨A2, c2, B2, d2, rfl, rfl, K2, _⟩ := (Here.nth h 2 (by simp)).two; obtain ⟨a2, A3, c3, rfl, f2⟩ := lit_facts K2 str_state; obtain ⟨_, _, B4, c4, _, e4, _, K4⟩ := (Here.nth h 8 (by simp)).two; injection e4 with e4 _ _; subst e4; obtain ⟨a4, A5, c5, rfl, f4⟩ := lit_facts K4 str_ab; have H11 := Aside0.mk h; clear h H10))
        | (go_at_call 40; go_must (refine (Open_nil _).mono ?_; rintro e w12 ⟨rfl, rfl⟩; obtain ⟨r0, r1, _, _, rl⟩ := cellsA_of (Here.nth H11.out 3 (by simp)); have x2 : w11.cell? a2 = some (.slice A3 5 c3) := (f2 w11 (Below.refl _ _)).1; have x4 : w11.cell? a4 = some (.slice A5 2 c5) := (f4 w11 (Below.refl _ _)).1; have CA := bytes_of (Here.nth H11.out 4 (by simp)); have hK : ∀ W' : World, Below w11.heap.size w11 W' → AvS W' a2 a4 w10.heap.size A0 A3 A5 c0 c3 c5 S := fun W' hb => ⟨(f2 _ hb).1, (f4 _ hb).1, pw_cell_below hb r0, (f2 _ hb).2, (f4 _ hb).2, stringS (c := c0) (Kd.C_below CA hb) HSS.out⟩; have HK := Aside0.mk hK; have zB : Sem.run Try.prog (convert 22 9 (.slice (some ⟨w11.heap.size, 0, none⟩) 184 184)) (w11.alloc (.cells (madeCells #[.int .u8 0] 184) 5)).drew = .ok (.string S) (w11.alloc (.cells (madeCells #[.int .u8 0] 184) 5)).drew := stringS (c := 184) (Kd.C_below (made_C w11 184 (by omega)) (Below.refl _ _).drew) HSS.out; clear hK CA f2 f4)))
      clear kc r1 K2 K4 k0 HQS SZ HO HPB HS0 x2 x4 r0
      dsimp only [List.append]
      go_region_held_law (fun w' => AvS w' a2 a4 w10.heap.size A0 A3 A5 c0 c3 c5 S)
        (first
          | exact HK.out _ (Below.refl _ _)
          | exact HK.out _ (Below.refl _ _).drew
          | exact HK.out _ (below_alloc (Below.refl _ _) _)
          | exact HK.out _ (below_alloc (Below.refl _ _) _).drew
          | exact HK.out _ (below_alloc (Below.refl _ _).drew _))
        (first
          | (go_at_call 58; go_must (refine (Gen_here (H11.out.alloc _).drew).mono ?_; rintro e w13 ⟨rfl, rfl⟩))
          | (go_at_call 51; go_must (refine (Stage_here (Here.nth ((H11.out.alloc _).drew) 6 (by simp))).mono ?_; rintro e w13 ⟨rfl, rfl⟩)))
      all_goals
        go_wp2_with fail
        go_ret
        exact ⟨rfl, ((H11.out.alloc _).drew).below⟩
end Go.Proofs.Ytmbemlpmfklddaa.Own
