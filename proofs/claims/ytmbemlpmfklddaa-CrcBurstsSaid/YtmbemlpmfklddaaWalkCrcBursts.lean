/- The walk of CrcBursts: whatever the bytes, the place and the bits, the call comes to true. -/
import Derived.Test.YtmbemlpmfklddaaRows2
import Derived.Test.YtmbemlpmfklddaaBursts
import Derived.Test.YtmbemlpmfklddaaCrcAlive
import Derived.Deep.RegionWith
import Derived.RegionTactic
import Derived.ChangeAlike
import Derived.Deep.DeepMust
import Derived.BigRegion
namespace Go.Proofs.Ytmbemlpmfklddaa.Own
open Go.RowKit Go.Proofs.YtmbemlpmfklddaaW.PrintWords Go.Proofs.YtmbemlpmfklddaaW.PrintLast Go.Proofs.YtmbemlpmfklddaaW.PrintMore
theorem OwnB.put {W : World} {base g cap n j : Nat} {xs : List Int} (h : OwnB W base (.slice (some ⟨g, 0, none⟩) n cap) xs) (hn : xs.length = n) (y : Int) :
    OwnB (W.setCell ⟨g, j, none⟩ (.int .u8 y)) base (.slice (some ⟨g, 0, none⟩) n cap) (xs.set j y) := by
  subst hn
  have := own_put h (j : Int) y
  rw [show (j : Int).toNat = j from by omega] at this
  unfold OwnB
  rw [List.length_set]
  rw [List.length_set] at this
  exact this
set_option maxHeartbeats 1600000 in
set_option maxRecDepth 100000 in
theorem CrcBursts_yes (A0 : Option Addr) (c0 : Nat) (l0 : List Int) (p : Nat) (a2 : Int) (w : World)
    (h0 : (Kd.int .u8).C w A0 l0.length l0) (k0 : l0.length ≤ c0) (w2 : (Lit.int .u32 a2).wf = true) (g1 : l0.length ≤ 3000) (g2 : a2 ≠ 0) (g3 : p + 32 ≤ 8 * l0.length) (hne : crcOf l0 ≠ crcOf (flips p a2 l0 32)) :
    Calls Try.prog 4 #[.slice A0 l0.length c0, .int .i64 p, .int .u32 a2] w fun e w' => e = .returned (.bool true) ∧ Below w.heap.size w w' := by
  have H0 := Aside0.mk h0
  have HB := Aside0.mk (Below.refl w.heap.size w)
  have hy : 0 ≤ a2 ∧ a2 < 4294967296 := by
    simp [Lit.wf, IntKind.min, IntKind.max, IntKind.signed, IntKind.bits] at w2
    omega
  obtain ⟨y0, y1⟩ := hy
  have HN := Aside0.mk hne
  have e1 : ¬ (3000 : Int) < (l0.length : Int) := by omega
  have e2 : (a2 == 0) = false := beq_eq_false_iff_ne.mpr g2
  have e3 : ¬ (8 * (l0.length : Int) - 32 < (p : Int)) := by omega
  clear h0 w2 hne g2
  go_enter Try.func4, Try.ntmps4
  go_wp2_with (at_builtin; go_must (refine app_bytes w.heap.size rfl (.tmp 29) (.tmp 30) rfl _ [] l0 A0 l0.length c0 rfl rfl rfl (own_empty _ _ (Nat.le_refl _)) (Kd.C_below H0.out (below_alloc (Below.refl _ _) _)) (below_alloc HB.out _) (below_alloc HB.out _).size (by simp; omega) ?_); intro v1 w1 O1 B1' G1; clear G1 HB; have HO := Aside0.mk O1; have HB := Aside0.mk B1'; clear O1 B1')
  have HO2 := HO.out
  rw [List.nil_append] at HO2
  obtain ⟨g, cap, hv, hgb, hgs⟩ := World.ownsRow.form HO2 (by omega)
  subst hv
  clear HO
  have HO := Aside0.mk HO2
  clear HO2
  go_loopw [8] (fun v8 wr => ∃ (k : Nat), k ≤ 32 ∧ v8 = .int .i64 k ∧ Aside0 (OwnB wr w.heap.size (.slice (some ⟨g, 0, none⟩) l0.length cap) (flips p a2 l0 k)) ∧ Aside0 (Below w.heap.size w wr)) (fun v8 _ => 32 - (intOf v8).toNat)
  case atStart => exact ⟨0, by omega, rfl, HO, HB⟩
  case round =>
    clear HO HB
    obtain ⟨k, hk, rfl, HO, HB⟩ := hrel
    by_cases hlt : k < 32
    · obtain ⟨j, hj⟩ : ∃ j, j = (p + k) / 8 := ⟨_, rfl⟩
      have hjl : j < l0.length := by omega
      obtain ⟨c, hc⟩ : ∃ c, c = flips p a2 l0 k := ⟨_, rfl⟩
      have hcl : c.length = l0.length := by rw [hc, flips_length]
      rw [← hc] at HO
      have hat := own_at (show wr.ownsRow w.heap.size 5 1 (.slice (some ⟨g, 0, none⟩) l0.length cap) l0.length (nums .u8 c) from by have := HO.out; unfold OwnB at this; rw [hcl] at this; exact this) (j : Int) (by omega) (by omega)
      obtain ⟨hcell, hfr⟩ := hat
      rw [show (j : Int).toNat = j from by omega, hj] at hcell hfr
      have HC := Aside0.mk hc
      have HL := Aside0.mk hcl
      have HJ := Aside0.mk hj
      have q1 : ((p : Int) + k) / 8 < l0.length := by omega
      have q2 : (p + k) / 8 < l0.length := by omega
      generalize hrd : rd c (((p + k) / 8 : Nat) : Int) = x at hcell
      have HR := Aside0.mk hrd
      clear hc hcl hj hrd
      by_cases hb : Go.bits .and .u32 (a2 / 2 ^ k) 1 = 1
      · have qb : (Go.bits .and .u32 (a2 / 2 ^ k) 1 == 1) = true := beq_iff_eq.mpr hb
        have HQ := Aside0.mk hb
        clear hb
        go_wp2_with fail
        go_region
        go_wp2
        go_roundw
        case rel =>
          refine ⟨k + 1, by omega, by go_num, ⟨?_⟩, ⟨?_⟩⟩
          · rw [flips, ← HC.out]
            unfold flip
            rw [if_pos HQ.out, HR.out]
            exact HO.out.put HL.out _
          · exact (HB.out.setCell (p := ⟨g, (p + k) / 8, none⟩) hgb _).drew
        case measure => simp [intOf]; omega
      · have qb : (Go.bits .and .u32 (a2 / 2 ^ k) 1 == 1) = false := beq_eq_false_iff_ne.mpr hb
        have HQ := Aside0.mk hb
        clear hb
        go_wp2_with fail
        go_roundw
        case rel =>
          refine ⟨k + 1, by omega, by go_num, ?_, HB⟩
          rw [flips, ← HC.out]
          unfold flip
          rw [if_neg HQ.out]
          exact HO
        case measure => simp [intOf]; omega
    · obtain rfl : k = 32 := by omega
      obtain ⟨c, hc⟩ : ∃ c, c = flips p a2 l0 32 := ⟨_, rfl⟩
      rw [← hc] at HO HN
      have HL := Aside0.mk (show c.length = l0.length by rw [hc, flips_length])
      clear hc
      have O1 := HO.out
      have hcc : (Kd.int .u8).C wr (some ⟨g, 0, none⟩) c.length c ∧ c.length ≤ cap := by
        obtain ⟨A, c', he, hl, hC⟩ := O1.slice
        injection he with h1 h2 h3
        subst h1 h3
        exact ⟨hC, hl⟩
      obtain ⟨hC, hcap⟩ := hcc
      rw [HL.out] at hcap
      have HC := Aside0.mk hC
      clear hC O1 HO
      go_wp2_with (first
        | (go_at_call 16; refine (alive01 _).mono ?_; rintro e w4 ⟨rfl, hb⟩; have HC2 := Aside0.mk (Kd.C_below HC.out hb); have HB3 := Aside0.mk (below_step HB.out hb); clear HC HB hb)
        | (go_at_call_of 17 A0; go_must (refine (Of_calls A0 c0 l0 _ (by exact Kd.C_below H0.out HB3.out) k0).mono ?_); rintro e w5 ⟨rfl, hb⟩; have HC3 := Aside0.mk (Kd.C_below HC2.out hb); have HB4 := Aside0.mk (below_step HB3.out hb); clear HC2 HB3 hb)
        | (go_at_call 17; go_must (rw [← HL.out]; refine (Of_calls _ _ c _ (by exact HC3.out) (by rw [HL.out]; exact hcap)).mono ?_); rintro e w6 ⟨rfl, hb⟩; have HB5 := Aside0.mk (below_step HB4.out hb); clear HC3 HB4 hb))
      go_ret
      exact ⟨by simp [HN.out], HB5.out⟩

set_option maxHeartbeats 400000 in
set_option maxRecDepth 100000 in
theorem CrcBursts_long (A0 : Option Addr) (c0 : Nat) (l0 : List Int) (a1 a2 : Int) (w : World) (hg : 3000 < (l0.length : Int)) :
    Calls Try.prog 4 #[.slice A0 l0.length c0, .int .i64 a1, .int .u32 a2] w fun e w' => e = .returned (.bool true) ∧ Below w.heap.size w w' := by
  go_enter Try.func4, Try.ntmps4
  go_wp2_with (go_at_call 16; refine (alive01 _).mono ?_; rintro e w4 ⟨rfl, hb⟩)
  go_ret
  exact ⟨rfl, hb⟩
set_option maxHeartbeats 400000 in
set_option maxRecDepth 100000 in
theorem CrcBursts_none (A0 : Option Addr) (c0 : Nat) (l0 : List Int) (a1 : Int) (w : World) (hg : (l0.length : Int) ≤ 3000) :
    Calls Try.prog 4 #[.slice A0 l0.length c0, .int .i64 a1, .int .u32 0] w fun e w' => e = .returned (.bool true) ∧ Below w.heap.size w w' := by
  go_enter Try.func4, Try.ntmps4
  go_wp2_with (go_at_call 16; refine (alive01 _).mono ?_; rintro e w4 ⟨rfl, hb⟩)
  go_ret
  exact ⟨rfl, hb⟩
set_option maxHeartbeats 400000 in
set_option maxRecDepth 100000 in
theorem CrcBursts_neg (A0 : Option Addr) (c0 : Nat) (l0 : List Int) (a1 a2 : Int) (w : World) (hg : (l0.length : Int) ≤ 3000) (h2 : (a2 == 0) = false) (h1 : a1 < 0) :
    Calls Try.prog 4 #[.slice A0 l0.length c0, .int .i64 a1, .int .u32 a2] w fun e w' => e = .returned (.bool true) ∧ Below w.heap.size w w' := by
  go_enter Try.func4, Try.ntmps4
  go_wp2_with (go_at_call 16; refine (alive01 _).mono ?_; rintro e w4 ⟨rfl, hb⟩)
  go_ret
  exact ⟨rfl, hb⟩
set_option maxHeartbeats 400000 in
set_option maxRecDepth 100000 in
theorem CrcBursts_far (A0 : Option Addr) (c0 : Nat) (l0 : List Int) (a1 a2 : Int) (w : World) (hg : (l0.length : Int) ≤ 3000) (h2 : (a2 == 0) = false) (h1 : 0 ≤ a1) (h3 : 8 * (l0.length : Int) - 32 < a1) :
    Calls Try.prog 4 #[.slice A0 l0.length c0, .int .i64 a1, .int .u32 a2] w fun e w' => e = .returned (.bool true) ∧ Below w.heap.size w w' := by
  go_enter Try.func4, Try.ntmps4
  go_wp2_with (go_at_call 16; refine (alive01 _).mono ?_; rintro e w4 ⟨rfl, hb⟩)
  go_ret
  exact ⟨rfl, hb⟩
theorem CrcBursts_calls (A0 : Option Addr) (c0 : Nat) (l0 : List Int) (a1 a2 : Int) (w : World)
    (h0 : (Kd.int .u8).C w A0 l0.length l0) (k0 : l0.length ≤ c0) (b0 : ∀ x ∈ l0, 0 ≤ x ∧ x < 256) (w2 : (Lit.int .u32 a2).wf = true) :
    Calls Try.prog 4 #[.slice A0 l0.length c0, .int .i64 a1, .int .u32 a2] w fun e w' => e = .returned (.bool true) ∧ Below w.heap.size w w' := by
  by_cases g1 : 3000 < (l0.length : Int)
  · exact CrcBursts_long _ _ _ _ _ _ g1
  by_cases g2 : a2 = 0
  · subst g2
    exact CrcBursts_none _ _ _ _ _ (by omega)
  by_cases g3 : a1 < 0
  · exact CrcBursts_neg _ _ _ _ _ _ (by omega) (beq_eq_false_iff_ne.mpr g2) g3
  by_cases g4 : 8 * (l0.length : Int) - 32 < a1
  · exact CrcBursts_far _ _ _ _ _ _ (by omega) (beq_eq_false_iff_ne.mpr g2) (by omega) g4
  obtain ⟨p, rfl⟩ := Int.eq_ofNat_of_zero_le (show 0 ≤ a1 by omega)
  have hy : 0 ≤ a2 ∧ a2 < 4294967296 := by
    have := w2
    simp [Lit.wf, IntKind.min, IntKind.max, IntKind.signed, IntKind.bits] at this
    omega
  exact CrcBursts_yes A0 c0 l0 p a2 w h0 k0 w2 (by omega) g2 (by omega) (bursts_ne l0 b0 p a2 hy.1 hy.2 g2 (by omega))
end Go.Proofs.Ytmbemlpmfklddaa.Own
