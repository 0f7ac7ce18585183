/- (*Disk).Read in memory. -/
import Derived.Test.YtmbemlpmfklddaaCopy
import Derived.RegionTactic
import Derived.BigRegion
import Derived.IntWalk
namespace Go.Proofs.Ytmbemlpmfklddaa.Own
open Go.RowKit Go.Proofs.YtmbemlpmfklddaaW.PrintWords Go.Proofs.YtmbemlpmfklddaaW.PrintLast Go.Proofs.YtmbemlpmfklddaaW.PrintMore
attribute [local go_sem] max2_int min2_int max_two min_two
def nowTo (d : Dm) (k : Nat) : List Int := (d.q.take k).foldl (fun b w => Own.splice b w.1.toNat w.2) d.b
def winTo (d : Dm) (p n k : Nat) : List Int := ((nowTo d k).drop p).take n
theorem nowTo_length {d : Dm} (h : d.Ok) (k : Nat) : (nowTo d k).length = d.b.length := by
  unfold nowTo
  rw [now_put _ _ (fun w hw => h.fit w (List.mem_of_mem_take hw)), putAll_length]
theorem nowTo_succ (d : Dm) (k : Nat) (hk : k < d.q.length) : nowTo d (k + 1) = Own.splice (nowTo d k) d.q[k].1.toNat d.q[k].2 := by
  unfold nowTo
  rw [List.take_succ_eq_append_getElem hk, List.foldl_append]
  rfl
theorem OwnB.cap {W : World} {base n c : Nat} {A : Option Addr} {xs : List Int} (h : OwnB W base (.slice A n c) xs) : n = xs.length ∧ n ≤ c := by
  obtain ⟨A', c', he, hl, _⟩ := h.slice
  injection he with _ h2 h3
  subst h2 h3
  exact ⟨rfl, hl⟩
set_option maxHeartbeats 1600000 in
set_option maxRecDepth 100000 in
theorem Read_yes {S : Nat → Prop} {g gb cap : Nat} {vq : Value} {d : Dm} {w : World} (h : DiskAt w S g gb cap vq d) (hq : d.q.length ≤ 1000000) (p n : Nat) (hf : d.fits p n) :
    Calls Try.prog 24 #[.pointer (some ⟨g, 0, none⟩), .int .i64 p, .int .i64 n] w fun e w' => ∃ v, e = .returned (.tuple #[v, .int .i64 0]) ∧ OwnB w' w.heap.size v (d.read p n) ∧ Below w.heap.size w w' := by
  have H := Aside0.mk h
  have HF := Aside0.mk hf
  have HB := Aside0.mk (Below.refl w.heap.size w)
  obtain ⟨h0, h1, h2, h3⟩ := h.at_
  obtain ⟨A, c, hv⟩ := Kd.N_slice h.queue
  subst hv
  have hbl := h.ok.hi
  have hfn : p + n ≤ d.b.length := by have := hf.2.2; omega
  obtain ⟨A0, c0, hbe, hbc, hbC⟩ := h.bytes.slice
  injection hbe with hb1 hb2 hb3
  subst hb1 hb3
  clear hb2
  have hm1 := run_mid (some ⟨gb, 0, none⟩) d.b.length cap p (p + n) (by omega) (by omega) (by omega) hbc
  have hcm := Kd.C_mid (lo := p) (hi := p + n) hbC (by omega) hfn hbc
  obtain ⟨a1, ha1⟩ : ∃ a1, a1 = (if cap = (p : Int).toNat then (some ⟨gb, 0, none⟩ : Option Addr) else (some (⟨gb, 0, none⟩ : Addr)).map (·.add ((p : Int).toNat * 1))) := ⟨_, rfl⟩
  obtain ⟨c1, hc1⟩ : ∃ c1, c1 = cap - (p : Int).toNat := ⟨_, rfl⟩
  obtain ⟨l0, hl0⟩ : ∃ l0, l0 = (d.b.take (p + n)).drop p := ⟨_, rfl⟩
  have hl0n : l0.length = n := by rw [hl0, List.length_drop, List.length_take]; omega
  have e1 : ((p : Int) + n).toNat - (p : Int).toNat = l0.length := by omega
  rw [← ha1, ← hc1, e1] at hm1
  rw [← hl0, show (Kd.int .u8).sz = 1 from rfl] at hcm
  have HC := Aside0.mk (show (Kd.int .u8).C w a1 l0.length l0 by rw [ha1, Int.toNat_natCast]; exact hcm)
  have HN := Aside0.mk hl0n
  have HL := Aside0.mk (show l0 = winTo d p n 0 by rw [hl0, List.drop_take, Nat.add_sub_cancel_left]; rfl)
  clear h hf h2 h3 ha1 hc1 hl0 hl0n e1 hcm hbC
  go_enter Try.func24, Try.ntmps24
  go_wp2_with (first
    | (go_at_call 60; go_must (refine (ask_yes H.out p n HF.out).mono ?_); rintro e w' ⟨rfl, rfl⟩)
    | (go_at_call 61; go_must (refine (Clone_calls a1 c1 l0 _ (by exact HC.out) (by rw [HN.out]; omega)).mono ?_); rintro e w1 ⟨v1, rfl, ho, hb⟩; obtain ⟨A1, c1, rfl, hc1, _⟩ := ho.slice; have HO := Aside0.mk ho; clear HB ho; have HB := Aside0.mk hb; obtain ⟨h0, h1, h2, h3⟩ := (H.out.below hb).at_; clear hb))
  go_loopw [36] (fun v36 wr => ∃ (k : Nat), k ≤ d.q.length ∧ v36 = .int .i64 k ∧ Aside0 (OwnB wr w.heap.size (.slice A1 l0.length c1) (winTo d p n k)) ∧ Aside0 (Below w.heap.size w wr)) (fun v36 _ => d.q.length - (intOf v36).toNat)
  case atStart => exact ⟨0, by omega, rfl, ⟨by rw [← HL.out]; exact HO.out⟩, HB⟩
  case round =>
    clear HO HB h0 h1 h2 h3
    obtain ⟨k, hk, rfl, HO, HB⟩ := hrel
    by_cases hlt : k < d.q.length
    · obtain ⟨ad, rfl⟩ := q_ptr H.out.queue (by omega)
      obtain ⟨A2, c2, g1, g2, hl2, hF2⟩ := q_at (H.out.below HB.out).queue k hlt
      have hfit := H.out.ok.fit _ (List.getElem_mem hlt)
      obtain ⟨z, hz⟩ := Int.eq_ofNat_of_zero_le hfit.1
      have HS := Aside0.mk (nowTo_succ d k hlt)
      have hnl := nowTo_length H.out.ok k
      have HW := Aside0.mk hnl
      generalize hqy : d.q[k].2 = y at g2 hl2 hF2 hfit HS
      rw [hz] at g1 hfit HS
      have hy : z + y.length ≤ d.b.length := by have := hfit.2; omega
      obtain ⟨f, hf⟩ : ∃ f, f = max p z := ⟨_, rfl⟩
      obtain ⟨t, ht⟩ : ∃ t, t = min (p + n) (z + y.length) := ⟨_, rfl⟩
      have r1 : (if (p : Int) < z then (z : Int) else p) = f := by split <;> omega
      have r2 : (if (z : Int) + y.length < (p : Int) + n then (z : Int) + y.length else (p : Int) + n) = t := by split <;> omega
      have r3 : (if p < z then (z : Int) else p) = f := by split <;> omega
      have r4 : (if z + y.length < p + n then (z : Int) + y.length else (p : Int) + n) = t := by split <;> omega
      have b1 : p ≤ f := by omega
      have b2 : z ≤ f := by omega
      have b3 : t ≤ p + n := by omega
      have b4 : t ≤ z + y.length := by omega
      have HFT := Aside0.mk hf
      have HTT := Aside0.mk ht
      have HF2 := Aside0.mk hF2
      clear hfit hz hqy hnl hf ht hF2
      by_cases hft : f < t
      · have hwl : (winTo d p n k).length = n := by unfold winTo; rw [List.length_take, List.length_drop, HW.out]; omega
        obtain ⟨go, cap', hgo, hgob, _⟩ := World.ownsRow.form HO.out (by rw [hwl]; omega)
        injection hgo with q1 q2 q3
        subst q1 q3
        have hl0n := HN.out
        have hoc : n ≤ c1 := by
          have := HO.out.cap
          omega
        have m1 := run_mid (some ⟨go, 0, none⟩) l0.length c1 ((f : Int) - p) ((t : Int) - p) (by omega) (by omega) (by omega) (by omega)
        rw [if_neg (by omega), show ((f : Int) - p).toNat = f - p by omega, show ((t : Int) - p).toNat - (f - p) = t - f by omega, Option.map_some, Nat.mul_one, add_off, Nat.zero_add] at m1
        have m2 := run_mid A2 y.length c2 ((f : Int) - z) ((t : Int) - z) (by omega) (by omega) (by omega) hl2
        obtain ⟨ys, hys⟩ : ∃ ys, ys = (y.drop (f - z)).take (t - f) := ⟨_, rfl⟩
        obtain ⟨sp, hsp⟩ : ∃ sp, sp = A2.map (·.add (f - z)) := ⟨_, rfl⟩
        rw [if_neg (by omega), show ((f : Int) - z).toNat = f - z by omega, show ((t : Int) - z).toNat - (f - z) = t - f by omega, Nat.mul_one, ← hsp] at m2
        have hC2 := Kd.C_mid (lo := f - z) (hi := t - z) (Kd.F_now HF2.out) (by omega) (by omega) hl2
        rw [if_neg (by omega), show (Kd.int .u8).sz = 1 from rfl, Nat.mul_one, ← hsp, List.drop_take, show t - z - (f - z) = t - f by omega, ← hys] at hC2
        have hyl : ys.length = t - f := by rw [hys, List.length_take, List.length_drop]; omega
        have HC2 := Aside0.mk hC2
        have HYL := Aside0.mk hyl
        have HWIN := Aside0.mk (show Own.splice (winTo d p n k) (f - p) ys = winTo d p n (k + 1) by
          unfold winTo
          rw [HS.out, Int.toNat_natCast, win_in (by rw [HW.out]; exact hfn) (by rw [HW.out]; exact hy) HFT.out HTT.out hft, hys])
        have HWL := Aside0.mk hwl
        clear hC2 hyl hys hsp hwl q2
        go_wp2_with fail
        go_region
        go_wp2_with fail
        have i1 : IntKind.i64.wrap ((f : Int) - p) = (f : Int) - p := IntWalk.i64_in _ (by omega)
        have i2 : IntKind.i64.wrap ((t : Int) - p) = (t : Int) - p := IntWalk.i64_in _ (by omega)
        have i3 : IntKind.i64.wrap ((f : Int) - z) = (f : Int) - z := IntWalk.i64_in _ (by omega)
        have i4 : IntKind.i64.wrap ((t : Int) - z) = (t : Int) - z := IntWalk.i64_in _ (by omega)
        clear hl0n
        go_region_law (refine copy_step rfl (.tmp 64) (.tmp 75) rfl go l0.length c1 (f - p) (t - f) _ _ sp (winTo d p n k) ys rfl rfl (by exact HO.out.below (below_alloc (Below.refl _ _) _).drew.drew) HYL.out (by exact Kd.C_below HC2.out (below_alloc (Below.refl _ _) _).drew.drew) (by omega) (by rw [HWL.out]; omega) (by rw [HWL.out, HN.out]) ?_; intro w5 O5 G5; have HO5 := Aside0.mk O5; have HG5 := Aside0.mk G5; clear O5 G5)
        all_goals
          go_wp2
          go_roundw
          case rel => exact ⟨k + 1, by omega, by go_num, ⟨by rw [← HWIN.out]; exact HO5.out⟩, ⟨pw_below_grown (below_alloc HB.out _).drew.drew _ (below_alloc HB.out _).drew.drew.size HG5.out (fun q e => by injection e with e; omega)⟩⟩
          case measure => simp [intOf]; omega
      · have HWIN := Aside0.mk (show winTo d p n (k + 1) = winTo d p n k by
          unfold winTo
          rw [HS.out, Int.toNat_natCast, win_out (by rw [HW.out]; exact hfn) (by rw [HW.out]; exact hy) (by have := HFT.out; have := HTT.out; omega)])
        go_wp2_with fail
        go_region
        go_wp2
        go_roundw
        case rel => exact ⟨k + 1, by omega, by go_num, ⟨by rw [HWIN.out]; exact HO.out.below (below_alloc (Below.refl _ _) _).drew⟩, ⟨(below_alloc HB.out _).drew⟩⟩
        case measure => simp [intOf]; omega
    · obtain rfl : k = d.q.length := by omega
      go_wp2_with fail
      go_ret2
      refine ⟨_, rfl, ?_, HB.out⟩
      have : winTo d p n d.q.length = d.read p n := by unfold winTo nowTo; rw [List.take_length]; rfl
      rw [← this]
      exact HO.out
end Go.Proofs.Ytmbemlpmfklddaa.Own
