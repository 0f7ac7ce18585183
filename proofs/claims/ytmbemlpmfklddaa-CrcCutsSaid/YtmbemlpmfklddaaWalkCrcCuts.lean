/- The walk of CrcCuts: whatever the bytes and the cuts, the call comes to true. -/
import Derived.Test.YtmbemlpmfklddaaRows2
import Derived.Test.YtmbemlpmfklddaaCrcAlive
import Derived.Deep.RegionWith
import Derived.Deep.DeepMust
namespace Go.Proofs.Ytmbemlpmfklddaa.Own
open Go.RowKit Go.Proofs.YtmbemlpmfklddaaW.PrintWords Go.Proofs.YtmbemlpmfklddaaW.PrintLast Go.Proofs.YtmbemlpmfklddaaW.PrintMore
set_option maxHeartbeats 2000000 in
set_option maxRecDepth 100000 in
theorem CrcCuts_calls (A0 A1 : Option Addr) (c0 c1 : Nat) (l0 l1 : List Int) (w : World)
    (h0 : (Kd.int .u8).C w A0 l0.length l0) (h1 : (Kd.int .u8).C w A1 l1.length l1) (k0 : l0.length ≤ c0) (_k1 : l1.length ≤ c1)
    (b1 : ∀ x ∈ l1, 0 ≤ x ∧ x < 256) :
    Calls Try.prog 5 #[.slice A0 l0.length c0, .slice A1 l1.length c1] w fun e w' => e = .returned (.bool true) ∧ Below w.heap.size w w' := by
  have H0 := Aside0.mk h0
  have H1 := Aside0.mk h1
  have B1 := Aside0.mk b1
  have HB := Aside0.mk (Below.refl w.heap.size w)
  have m1 := h1.2.1
  clear h0 h1 b1
  by_cases hg : l0.length ≤ 3000
  · have hg2 : ¬ (3000 : Int) < (l0.length : Int) := by omega
    go_enter Try.func5, Try.ntmps5
    go_wp2_with fail
    go_loopw [5, 6, 7, 8] (fun v5 v6 v7 v8 wr => ∃ (k : Nat) (L : List (List Int)) (r : List Int) (A : Option Addr) (c : Nat) (vl : Value), vl = v5 ∧ k ≤ l1.length ∧ k ≤ 60 ∧ r.length ≤ c ∧ r.length ≤ 3000 ∧ v6 = .slice A r.length c ∧ v7 = .int .i64 k ∧
        Aside0 (Kd.F (Kd.int .u8) wr (fun b => b < w.heap.size) A r.length r) ∧ Aside0 (Kd.N BL 22 wr w.heap.size (fun _ => True) vl L) ∧ Aside0 (L.flatten ++ r = l0 ∧ L.length = k) ∧ Aside0 (Below w.heap.size w wr)) (fun _ _ v7 _ _ => 60 - (intOf v7).toNat)
    case atStart =>
      exact ⟨0, [], l0, A0, c0, _, rfl, by omega, by omega, k0, hg, rfl, rfl, ⟨Kd.C_F (Kd.heap_int _) H0.out⟩, ⟨Kd.N_nil _ _ _ _ _⟩, ⟨by simp⟩, HB⟩
    case round =>
      obtain ⟨k, L, r, A, c, vl, rfl, hk1, hk2, hrc, hr3, rfl, rfl, HF, HN, HL, HB2⟩ := hrel
      clear HB
      have HB := HB2
      clear HB2
      by_cases hlt : k < l1.length ∧ k < 60 ∧ 0 < r.length
      · obtain ⟨hlt1, hlt2, hlt3⟩ := hlt
        obtain ⟨ad, rfl, hc⟩ := Kd.at_int (Kd.C_below H1.out HB.out) (k : Int) (by omega) (by omega)
        have hb := B1.out (rd l1 k) (by
          have : rd l1 (k : Int) = l1[k] := by simp [rd, List.getD_eq_getElem?_getD, List.getElem?_eq_getElem hlt1]
          rw [this]
          exact List.getElem_mem hlt1)
        generalize rd l1 (k : Int) = x at hc hb
        rw [show (k : Int).toNat = k from by omega] at hc
        obtain ⟨hx0, hx1⟩ := hb
        have q1 : decide ((k : Int) < (l1.length : Int)) = true := decide_eq_true (by omega)
        have q2 : decide ((k : Int) < 60) = true := decide_eq_true (by omega)
        have q3 : decide ((0 : Int) < (r.length : Int)) = true := decide_eq_true (by omega)
        by_cases hx : (r.length : Int) < x
        · skip
          have ht := run_take A r.length c (r.length : Int) (by omega) (by omega) hrc
          have hd := run_drop A r.length c (r.length : Int) (by omega) (by omega)
          obtain ⟨a2, ha2⟩ : ∃ a2, a2 = (if c = ((r.length : Int) : Int).toNat then A else A.map (·.add (((r.length : Int) : Int).toNat * 1))) := ⟨_, rfl⟩
          obtain ⟨r1, hr1⟩ : ∃ r1, r1 = r.take ((r.length : Int) : Int).toNat := ⟨_, rfl⟩
          obtain ⟨r2, hr2⟩ : ∃ r2, r2 = r.drop ((r.length : Int) : Int).toNat := ⟨_, rfl⟩
          have e1 : ((r.length : Int) : Int).toNat = r1.length := by rw [hr1, List.length_take]; omega
          have e2 : r.length - ((r.length : Int) : Int).toNat = r2.length := by rw [hr2, List.length_drop]
          obtain ⟨c2, hc2⟩ : ∃ c2, c2 = c - ((r.length : Int) : Int).toNat := ⟨_, rfl⟩
          have g1 : r1.length ≤ c := by rw [← e1]; omega
          have g2 : r2.length ≤ c2 := by rw [← e2, hc2]; omega
          have g3 : r2.length ≤ 3000 := by omega
          have F1 : Kd.F (Kd.int .u8) wr (fun b => b < w.heap.size) A r1.length r1 := by rw [hr1]; exact Kd.F_take HF.out (by omega)
          have F2 : Kd.F (Kd.int .u8) wr (fun b => b < w.heap.size) a2 r2.length r2 := by rw [hr2, ha2]; exact Kd.F_cut HF.out (by omega) hrc
          have HJ := Aside0.mk (show r1 ++ r2 = r by rw [hr1, hr2, List.take_append_drop])
          rw [← ha2, e2, ← hc2] at hd
          rw [e1] at ht
          have HF1 := Aside0.mk F1
          have HF2 := Aside0.mk F2
          clear F1 F2 ha2 hr1 hr2 e1 e2 hc2 HF
          go_wp2_with (at_builtin; go_must (refine app_slice w.heap.size rfl (.tmp 40) (.tmp 44) rfl vl L r1 A c (fun _ => True) (fun b => b < w.heap.size) rfl rfl g1 HF1.out (fun k hk => ⟨trivial, fun e => by have := Kd.N_base HN.out k e.symm; omega⟩) (fun _ _ => trivial) HN.out HB.out HB.out.size (by have := HL.out.2; omega) ?_); go_must (intro v1 w1 O1 B2 G1 _; have HN2 := Aside0.mk O1; have HF3 := Aside0.mk (Kd.F_grown HF2.out G1 (fun k hk e => by have := Kd.N_base HN.out k e.symm; omega)); have HL2 := Aside0.mk (show (L ++ [r1]).flatten ++ r2 = l0 ∧ (L ++ [r1]).length = k + 1 from ⟨by rw [← HL.out.1, ← HJ.out]; simp, by simp [HL.out.2]⟩); have HB2 := Aside0.mk B2; clear O1 G1 HN HF1 HF2 HL HJ HB B2 ht))
          go_roundw
          case rel => exact ⟨k + 1, L ++ [r1], r2, a2, c2, _, rfl, by omega, by omega, g2, g3, rfl, by go_num, HF3, HN2, HL2, HB2⟩
          case measure => simp [intOf]; omega
        · skip
          have ht := run_take A r.length c x (by omega) (by omega) hrc
          have hd := run_drop A r.length c x (by omega) (by omega)
          obtain ⟨a2, ha2⟩ : ∃ a2, a2 = (if c = (x : Int).toNat then A else A.map (·.add ((x : Int).toNat * 1))) := ⟨_, rfl⟩
          obtain ⟨r1, hr1⟩ : ∃ r1, r1 = r.take (x : Int).toNat := ⟨_, rfl⟩
          obtain ⟨r2, hr2⟩ : ∃ r2, r2 = r.drop (x : Int).toNat := ⟨_, rfl⟩
          have e1 : (x : Int).toNat = r1.length := by rw [hr1, List.length_take]; omega
          have e2 : r.length - (x : Int).toNat = r2.length := by rw [hr2, List.length_drop]
          obtain ⟨c2, hc2⟩ : ∃ c2, c2 = c - (x : Int).toNat := ⟨_, rfl⟩
          have g1 : r1.length ≤ c := by rw [← e1]; omega
          have g2 : r2.length ≤ c2 := by rw [← e2, hc2]; omega
          have g3 : r2.length ≤ 3000 := by omega
          have F1 : Kd.F (Kd.int .u8) wr (fun b => b < w.heap.size) A r1.length r1 := by rw [hr1]; exact Kd.F_take HF.out (by omega)
          have F2 : Kd.F (Kd.int .u8) wr (fun b => b < w.heap.size) a2 r2.length r2 := by rw [hr2, ha2]; exact Kd.F_cut HF.out (by omega) hrc
          have HJ := Aside0.mk (show r1 ++ r2 = r by rw [hr1, hr2, List.take_append_drop])
          rw [← ha2, e2, ← hc2] at hd
          rw [e1] at ht
          have HF1 := Aside0.mk F1
          have HF2 := Aside0.mk F2
          clear F1 F2 ha2 hr1 hr2 e1 e2 hc2 HF
          go_wp2_with (at_builtin; go_must (refine app_slice w.heap.size rfl (.tmp 40) (.tmp 44) rfl vl L r1 A c (fun _ => True) (fun b => b < w.heap.size) rfl rfl g1 HF1.out (fun k hk => ⟨trivial, fun e => by have := Kd.N_base HN.out k e.symm; omega⟩) (fun _ _ => trivial) HN.out HB.out HB.out.size (by have := HL.out.2; omega) ?_); go_must (intro v1 w1 O1 B2 G1 _; have HN2 := Aside0.mk O1; have HF3 := Aside0.mk (Kd.F_grown HF2.out G1 (fun k hk e => by have := Kd.N_base HN.out k e.symm; omega)); have HL2 := Aside0.mk (show (L ++ [r1]).flatten ++ r2 = l0 ∧ (L ++ [r1]).length = k + 1 from ⟨by rw [← HL.out.1, ← HJ.out]; simp, by simp [HL.out.2]⟩); have HB2 := Aside0.mk B2; clear O1 G1 HN HF1 HF2 HL HJ HB B2 ht))
          go_roundw
          case rel => exact ⟨k + 1, L ++ [r1], r2, a2, c2, _, rfl, by omega, by omega, g2, g3, rfl, by go_num, HF3, HN2, HL2, HB2⟩
          case measure => simp [intOf]; omega
      · by_cases q1 : k < l1.length
        · by_cases q2 : k < 60
          · have q3 : r.length = 0 := by
              rcases Nat.eq_zero_or_pos r.length with h | h
              · exact h
              · exact absurd ⟨q1, q2, h⟩ hlt
            clear hlt
            have p1 : decide ((k : Int) < (l1.length : Int)) = true := decide_eq_true (by omega)
            have p2 : decide ((k : Int) < 60) = true := decide_eq_true (by omega)
            have p3 : decide ((0 : Int) < (r.length : Int)) = false := decide_eq_false (by omega)
            have p4 : decide (0 < r.length) = false := decide_eq_false (by omega)
            clear q3
            go_wp2_with (first
              | (at_builtin; go_must (refine app_slice w.heap.size rfl (.tmp 49) (.tmp 51) rfl vl L r A c (fun _ => True) (fun b => b < w.heap.size) rfl rfl hrc HF.out (fun k hk => ⟨trivial, fun e => by have := Kd.N_base HN.out k e.symm; omega⟩) (fun _ _ => trivial) HN.out HB.out HB.out.size (by have := HL.out.2; omega) ?_); go_must (intro v1 w1 O1 B2 G1 _; obtain ⟨L2, hL2⟩ : ∃ L2, L2 = L ++ [r] := ⟨_, rfl⟩; rw [← hL2] at O1; have HL2 := Aside0.mk hL2; clear hL2; obtain ⟨A3, c3, hv1, k3, C3⟩ := Kd.N_reads O1; subst hv1; have HN2 := Aside0.mk C3; have HB2 := Aside0.mk B2; clear O1 G1 HN HF HB B2 C3))
              | (go_at_call 16; refine (alive01 _).mono ?_; rintro e w4 ⟨rfl, hb⟩; have HN3 := Aside0.mk (Kd.C_below HN2.out hb); have HB3 := Aside0.mk (below_step HB2.out hb); clear HN2 HB2 hb)
              | (go_at_call 19; go_must (refine (Join_calls A3 c3 L2 _ (by exact HN3.out) k3).mono ?_); rw [show L2.flatten = l0 from by rw [← HL.out.1, HL2.out]; simp]; rintro e w4 ⟨rfl, hb⟩; have HB4 := Aside0.mk (below_step HB3.out hb.below); clear HN3 HB3 hb)
              | (go_at_call 17; refine (Of_calls A0 c0 l0 _ (by exact Kd.C_below H0.out HB4.out) k0).mono ?_; rintro e w4 ⟨rfl, hb⟩; have HB5 := Aside0.mk (below_step HB4.out hb); clear HB4 hb))
            go_ret
            exact ⟨rfl, HB5.out⟩
          · have p1 : decide ((k : Int) < (l1.length : Int)) = true := decide_eq_true (by omega)
            have p2 : decide ((k : Int) < 60) = false := decide_eq_false (by omega)
            go_wp2_with (first
              | (at_builtin; go_must (refine app_slice w.heap.size rfl (.tmp 49) (.tmp 51) rfl vl L r A c (fun _ => True) (fun b => b < w.heap.size) rfl rfl hrc HF.out (fun k hk => ⟨trivial, fun e => by have := Kd.N_base HN.out k e.symm; omega⟩) (fun _ _ => trivial) HN.out HB.out HB.out.size (by have := HL.out.2; omega) ?_); go_must (intro v1 w1 O1 B2 G1 _; obtain ⟨L2, hL2⟩ : ∃ L2, L2 = L ++ [r] := ⟨_, rfl⟩; rw [← hL2] at O1; have HL2 := Aside0.mk hL2; clear hL2; obtain ⟨A3, c3, hv1, k3, C3⟩ := Kd.N_reads O1; subst hv1; have HN2 := Aside0.mk C3; have HB2 := Aside0.mk B2; clear O1 G1 HN HF HB B2 C3))
              | (go_at_call 16; refine (alive01 _).mono ?_; rintro e w4 ⟨rfl, hb⟩; have HN3 := Aside0.mk (Kd.C_below HN2.out hb); have HB3 := Aside0.mk (below_step HB2.out hb); clear HN2 HB2 hb)
              | (go_at_call 19; go_must (refine (Join_calls A3 c3 L2 _ (by exact HN3.out) k3).mono ?_); rw [show L2.flatten = l0 from by rw [← HL.out.1, HL2.out]; simp]; rintro e w4 ⟨rfl, hb⟩; have HB4 := Aside0.mk (below_step HB3.out hb.below); clear HN3 HB3 hb)
              | (go_at_call 17; refine (Of_calls A0 c0 l0 _ (by exact Kd.C_below H0.out HB4.out) k0).mono ?_; rintro e w4 ⟨rfl, hb⟩; have HB5 := Aside0.mk (below_step HB4.out hb); clear HB4 hb))
            go_ret
            exact ⟨rfl, HB5.out⟩
        · have p1 : decide ((k : Int) < (l1.length : Int)) = false := decide_eq_false (by omega)
          go_wp2_with (first
            | (at_builtin; go_must (refine app_slice w.heap.size rfl (.tmp 49) (.tmp 51) rfl vl L r A c (fun _ => True) (fun b => b < w.heap.size) rfl rfl hrc HF.out (fun k hk => ⟨trivial, fun e => by have := Kd.N_base HN.out k e.symm; omega⟩) (fun _ _ => trivial) HN.out HB.out HB.out.size (by have := HL.out.2; omega) ?_); go_must (intro v1 w1 O1 B2 G1 _; obtain ⟨L2, hL2⟩ : ∃ L2, L2 = L ++ [r] := ⟨_, rfl⟩; rw [← hL2] at O1; have HL2 := Aside0.mk hL2; clear hL2; obtain ⟨A3, c3, hv1, k3, C3⟩ := Kd.N_reads O1; subst hv1; have HN2 := Aside0.mk C3; have HB2 := Aside0.mk B2; clear O1 G1 HN HF HB B2 C3))
            | (go_at_call 16; refine (alive01 _).mono ?_; rintro e w4 ⟨rfl, hb⟩; have HN3 := Aside0.mk (Kd.C_below HN2.out hb); have HB3 := Aside0.mk (below_step HB2.out hb); clear HN2 HB2 hb)
            | (go_at_call 19; go_must (refine (Join_calls A3 c3 L2 _ (by exact HN3.out) k3).mono ?_); rw [show L2.flatten = l0 from by rw [← HL.out.1, HL2.out]; simp]; rintro e w4 ⟨rfl, hb⟩; have HB4 := Aside0.mk (below_step HB3.out hb.below); clear HN3 HB3 hb)
            | (go_at_call 17; refine (Of_calls A0 c0 l0 _ (by exact Kd.C_below H0.out HB4.out) k0).mono ?_; rintro e w4 ⟨rfl, hb⟩; have HB5 := Aside0.mk (below_step HB4.out hb); clear HB4 hb))
          go_ret
          exact ⟨rfl, HB5.out⟩
  · have hq : 3000 < (l0.length : Int) := by omega
    go_enter Try.func5, Try.ntmps5
    go_wp2_with (go_at_call 16; refine (alive01 _).mono ?_; rintro e w4 ⟨rfl, hb⟩; clear hq)
    go_ret
    exact ⟨rfl, hb⟩
end Go.Proofs.Ytmbemlpmfklddaa.Own
