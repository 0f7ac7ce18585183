/- The record that bytes begin with: the walk. -/
import Derived.Test.YtmbemlpmfklddaaFrA
import Derived.Test.YtmbemlpmfklddaaCopy
import Derived.Test.YtmbemlpmfklddaaDsk
import Derived.BigRegion
import Derived.Deep.RegionHeld3
import Derived.Deep.DeepCutAuto
import Derived.Deep.CutBlock
import Derived.Laws.BitsLemmas
import Derived.IntWalk
namespace Go.Proofs.Ytmbemlpmfklddaa.Own
open Go.RowKit Go.Proofs.YtmbemlpmfklddaaW.PrintWords Go.Proofs.YtmbemlpmfklddaaW.PrintLast Go.Proofs.YtmbemlpmfklddaaW.PrintMore
/-- What next hands back: a record in bytes of its own. -/
def NextV (w w' : World) (x : Rec × Nat × Int) (e : Ending) : Prop := ∃ v, e = .returned (.tuple #[.agg #[.int .i64 x.1.1, v], .int .i64 x.2.1, .int .i64 x.2.2]) ∧ OwnB w' w.heap.size v x.1.2 ∧ Below w.heap.size w w'
theorem heap7 {w : World} {o1 o2 : Obj} : ((w.alloc o1).drew.drew.alloc o2).heap[w.heap.size + 1]? = some o2 := heap_at (by simp)
theorem size2 {w : World} {o : Obj} : (w.alloc o).drew.drew.heap.size = w.heap.size + 1 := by simp
theorem size3 {w : World} {o o2 : Obj} : ((w.alloc o).drew.drew.alloc o2).heap.size = w.heap.size + 2 := by simp
theorem own_put2 {w : World} {base g b : Nat} {v : Value} {xs : List Int} {u0 u1 : Value} (h : OwnB w base v xs) (hg : g < base) (hb : b ≤ base) : OwnB ((w.setCell ⟨g, 0, none⟩ u0).setCell ⟨g, 1, none⟩ u1) b v xs :=
  (h.chg (S := fun k => k = g) (((Chg.refl (fun k => k = g) w).setCell (p := ⟨g, 0, none⟩) (.inl rfl) u0).setCell (p := ⟨g, 1, none⟩) (.inl rfl) u1) (fun k hk e => by have := own_base h k hk; omega)).lower hb
theorem or_bytes {x y : Int} (h1 : 0 ≤ x) (h2 : x < 256) (h3 : 0 ≤ y) (h4 : y < 256) : bits .or .i64 (x * 256) y = x * 256 + y := by
  have e16 : (2 : Int) ^ 16 = 65536 := by decide
  have e8 : (2 : Int) ^ 8 = 256 := by decide
  exact bits_join .i64 16 (by decide) (fun n a b => by rw [e16] at b; exact IntWalk.i64_in n ⟨by omega, by omega⟩) 8 (x * 256) y (by omega) (by rw [e8]; omega) (by rw [e16]; omega) h3 (by rw [e8]; omega) (by rw [e16]; omega)
theorem at_byte {w : World} {A : Option Addr} {b : List Int} (h : (Kd.int .u8).C w A b.length b) (hb : ∀ x ∈ b, 0 ≤ x ∧ x < 256) (i : Nat) (hi : i < b.length) :
    ∃ ad, A = some ad ∧ w.cell? (ad.add i) = some (.int .u8 (b.getD i 0)) ∧ 0 ≤ b.getD i 0 ∧ b.getD i 0 < 256 := by
  obtain ⟨ad, e, hc⟩ := Kd.at_int h (i : Int) (by omega) (by omega)
  have e1 : b.getD i 0 = b[i] := by simp [List.getD_eq_getElem?_getD, List.getElem?_eq_getElem hi]
  have := hb b[i] (List.getElem_mem hi)
  refine ⟨ad, e, ?_, by rw [e1]; exact this.1, by rw [e1]; exact this.2⟩
  simpa [rd] using hc
set_option maxHeartbeats 1000000 in
set_option maxRecDepth 100000 in
theorem next_calls (A : Option Addr) (c : Nat) (b : List Int) (w : World) (h : (Kd.int .u8).C w A b.length b) (hc : b.length ≤ c) (hb : ∀ x ∈ b, 0 ≤ x ∧ x < 256) :
    Calls Try.prog 68 #[.slice A b.length c] w fun e w' => NextV w w' (nextR b) e := by
  have hu49 := Try.underlying49
  have H := Aside0.mk h
  have hm := h.2.1
  by_cases h9 : 9 ≤ b.length
  · have hw := below_alloc (Below.refl w.heap.size w) (.cells #[Value.int .i64 0, Value.slice none 0 0] 49)
    obtain ⟨ad, rfl, d0, r0, s0⟩ := at_byte h hb 0 (by omega)
    obtain ⟨ad1, e1, d1, r1, s1⟩ := at_byte h hb 1 (by omega)
    obtain ⟨ad2, e2, d2, r2, s2⟩ := at_byte h hb 2 (by omega)
    obtain ⟨ad3, e3, d3, r3, s3⟩ := at_byte h hb 3 (by omega)
    cases e1
    cases e2
    cases e3
    replace d0 := pw_cell_below hw d0
    rw [show ad.add 0 = ad by simp [Addr.add]] at d0
    replace d1 := pw_cell_below hw d1
    replace d2 := pw_cell_below hw d2
    replace d3 := pw_cell_below hw d3
    rw [show ad.add 1 = ⟨ad.block, ad.off + 1, none⟩ by simp [Addr.add]] at d1
    rw [show ad.add 2 = ⟨ad.block, ad.off + 2, none⟩ by simp [Addr.add]] at d2
    rw [show ad.add 3 = ⟨ad.block, ad.off + 3, none⟩ by simp [Addr.add]] at d3
    have i1 : (1 : Int) < (b.length : Int) := by omega
    have i2 : (2 : Int) < (b.length : Int) := by omega
    have i3 : (3 : Int) < (b.length : Int) := by omega
    clear h hw
    obtain ⟨x0, hx0⟩ : ∃ x, x = b.getD 0 0 := ⟨_, rfl⟩
    obtain ⟨x1, hx1⟩ : ∃ x, x = b.getD 1 0 := ⟨_, rfl⟩
    obtain ⟨x2, hx2⟩ : ∃ x, x = b.getD 2 0 := ⟨_, rfl⟩
    obtain ⟨x3, hx3⟩ : ∃ x, x = b.getD 3 0 := ⟨_, rfl⟩
    rw [← hx0] at d0 r0 s0
    rw [← hx1] at d1 r1 s1
    rw [← hx2] at d2 r2 s2
    rw [← hx3] at d3 r3 s3
    have X0 := Aside0.mk hx0
    have X1 := Aside0.mk hx1
    have X2 := Aside0.mk hx2
    have X3 := Aside0.mk hx3
    clear hx0 hx1 hx2 hx3
    have q1 : decide ((b.length : Int) < 9) = false := decide_eq_false (by omega)
    have q2 : ¬ b.length < 9 := by omega
    by_cases h0 : x0 = 90
    · subst h0
      obtain ⟨n, hn⟩ : ∃ n, n = headN b := ⟨_, rfl⟩
      have hor : bits .or .i64 (x2 * 256) x3 = (n : Int) := by
        rw [or_bytes r2 s2 r3 s3, hn]
        unfold headN
        rw [← X2.out, ← X3.out]
        omega
      have n1 : n ≤ 65535 := by
        rw [hn]
        unfold headN
        rw [← X2.out, ← X3.out]
        omega
      have HN := Aside0.mk hn
      clear hn
      have u1 : IntKind.i64.wrap (4 + (n : Int)) = ((4 + n : Nat) : Int) := by rw [IntWalk.i64_in _ ⟨by omega, by omega⟩]; simp
      have u2 : IntKind.i64.wrap (((4 + n : Nat) : Int) + 5) = ((n + 9 : Nat) : Int) := by rw [IntWalk.i64_in _ ⟨by omega, by omega⟩]; omega
      have u3 : IntKind.i64.wrap (((n + 9 : Nat) : Int) - 1) = ((n + 8 : Nat) : Int) := by rw [IntWalk.i64_in _ ⟨by omega, by omega⟩]; omega
      by_cases hl : n + 9 ≤ b.length
      · have p1 : decide ((b.length : Int) < ((n + 9 : Nat) : Int)) = false := decide_eq_false (by omega)
        have p2 : ¬ b.length < n + 9 := by omega
        obtain ⟨ad8, e8, d8, r8, s8⟩ := at_byte H.out hb (n + 8) (by omega)
        cases e8
        replace d8 := pw_cell_below (below_alloc (Below.refl w.heap.size w) (.cells #[Value.int .i64 0, Value.slice none 0 0] 49)).drew d8
        rw [show ad.add (n + 8) = (⟨ad.block, ad.off + (4 + n + 3 + 1), none⟩ : Addr) by simp [Addr.add]; omega] at d8
        have i8 : (4 : Int) + (n : Int) + 5 - 1 < (b.length : Int) := by omega
        obtain ⟨x8, hx8⟩ : ∃ x, x = b.getD (n + 8) 0 := ⟨_, rfl⟩
        rw [← hx8] at d8 r8 s8
        have X8 := Aside0.mk hx8
        clear hx8
        by_cases h8 : x8 = 165
        · subst h8
          have hwh : whole b := ⟨h9, X0.out.symm, by rw [← HN.out]; exact hl, by rw [← HN.out]; exact X8.out.symm⟩
          have hr : headR b = (x1, (b.drop 4).take n) := by rw [X1.out, HN.out]; rfl
          obtain ⟨l, hl2⟩ : ∃ l, l = (b.drop 4).take n := ⟨_, rfl⟩
          rw [← hl2] at hr
          have ll : l.length = n := by rw [hl2, List.length_take, List.length_drop]; omega
          have hm1 := run_mid (some ad) b.length c 4 (4 + (n : Int)) (by omega) (by omega) (by omega) hc
          have C1 := Kd.C_mid (lo := 4) (hi := 4 + n) H.out (by omega) (by omega) hc
          have e1 : (b.take (4 + n)).drop 4 = l := by rw [hl2, List.drop_take]; congr 1; omega
          rw [e1] at C1
          obtain ⟨A1, hA1⟩ : ∃ A1, A1 = (if c = 4 then some ad else (some ad).map (·.add (4 * 1))) := ⟨_, rfl⟩
          have hm2 : ∀ W : World, (Instr.slice 22 (.slice (some ad) b.length c) (some (.int .i64 4)) (some (.int .i64 (4 + (n : Int)))) none).run Try.prog W = .ok (.slice A1 l.length (c - 4)) W := by
            intro W
            rw [hm1 W, hA1, ll]
            congr 2
            omega
          have hlt : ad.block < w.heap.size := by
            obtain ⟨ad', e', dd, _, _⟩ := at_byte H.out hb 1 (by omega)
            cases e'
            have := World.block_lt_of_cell? w _ dd
            simpa [Addr.add] using this
          have wx1 : IntKind.i64.wrap x1 = x1 := IntWalk.i64_in _ ⟨by omega, by omega⟩
          have hne : ad.block ≠ w.heap.size + 1 := by omega
          have hne2 : w.heap.size + 1 ≠ ad.block := by omega
          have HC1 := Aside0.mk (show (Kd.int .u8).C w A1 l.length l by rw [hA1]; exact C1)
          have HWH := Aside0.mk hwh
          have HHR := Aside0.mk hr
          have HLL := Aside0.mk ll
          clear hm1 C1 hA1 hl2 e1 hwh hr ll
          go_enter Try.func68, Try.ntmps68
          go_wp2_with fail
          go_region
          go_wp2_with fail
          go_cut [7] from 44 to 54 (fun v7 wx => ∃ (g7 : Nat) (A5 : Option Addr) (c5 : Nat), v7 = .pointer (some ⟨g7, 0, none⟩) ∧ l.length ≤ c5 ∧ w.heap.size < g7 ∧ Aside0 (wx.heap[g7]? = some (.cells #[.int .i64 x1, .slice A5 l.length c5] 49 (0, 0))) ∧
            Aside0 (wx.heap[w.heap.size]? = some (.cells #[.int .i64 0, .slice none 0 0] 49 (0, 0))) ∧ Aside0 (OwnB wx (w.heap.size + 1) (.slice A5 l.length c5) l) ∧ Aside0 (Below w.heap.size w wx))
          case first =>
            go_region_held3 (fun w' => w'.cell? ⟨ad.block, ad.off + 1, none⟩ = some (.int .u8 x1))
              (first
                | exact d1
                | exact dd1
                | go_keep)
              (first
                | (go_at_call 61; go_must (refine (Clone_calls A1 (c - 4) l _ (by exact Kd.C_below HC1.out (by repeat (first | exact Below.refl _ _ | apply below_alloc | with_reducible apply Below.drew))) (by have := HLL.out; omega)).mono ?_; rintro e w2 ⟨v, rfl, ho, hbb⟩; have hs := OwnB.slice ho; obtain ⟨A5, c5, hv, k5, _⟩ := hs; subst hv; have dd1 : w2.cell? ⟨ad.block, ad.off + 1, none⟩ = some (.int .u8 x1) := pw_cell_below hbb (by assumption); have hgb : w2.heap[w.heap.size]? = some (.cells #[.int .i64 0, .slice none 0 0] 49 (0, 0)) := blk_below (by repeat (first | (refine heap_at ?_; with_reducible rfl) | with_reducible refine blk_alloc ?_ _ | with_reducible refine blk_drew ?_)) hbb; have HGB := Aside0.mk hgb; have HO := Aside0.mk ho; have HB := Aside0.mk hbb; clear ho hgb; (first | (have hg7 : w2.heap[w.heap.size + 1]? = some (.cells #[.int .i64 0, .slice none 0 0] 49 (0, 0)) := blk_below heap7 hbb; have k70 : w2.cell? ⟨w.heap.size + 1, 0, none⟩ = some (.int .i64 0) := blk_cell hg7 0; have k71 : w2.cell? ⟨w.heap.size + 1, 1, none⟩ = some (.slice none 0 0) := blk_cell hg7 1; have z70 := blk_frozen hg7 0; have z71 := blk_frozen hg7 1; have HG7 := Aside0.mk hg7; clear hg7) | skip); clear hbb)))
            all_goals
              go_wp2_with fail
              go_meet
              first
                | exact ⟨_, A5, c5, rfl, k5, by have := HB.out.size; simp only [size2] at this; omega, ⟨heap_at rfl⟩, ⟨blk_alloc HGB.out _⟩, ⟨(HO.out.lower (by first | (simp; done) | (simp; omega))).below (below_alloc (Below.refl _ _) _)⟩, ⟨below_alloc (below_step (below_alloc (Below.refl _ _) _).drew.drew HB.out) _⟩⟩
                | exact ⟨_, A5, c5, rfl, k5, by omega, ⟨blk_put (blk_put HG7.out 0 _ rfl) 1 _ rfl⟩, ⟨blk_far (blk_far HGB.out (by simp) _) (by simp) _⟩, ⟨own_put2 (g := w.heap.size + 1) HO.out (by simp) (by first | (simp; done) | (simp; omega))⟩, ⟨below_set (below_set (below_step (below_alloc (below_alloc (Below.refl _ _) _).drew.drew _) HB.out) (by omega)) (by omega)⟩⟩
          case rest =>
            obtain ⟨g7, A5, c5, rfl, k5, hg7, H7, HG, HO, HB⟩ := hcut
            have y0 : wc.cell? ⟨g7, 0, none⟩ = some (.int .i64 x1) := blk_cell H7.out 0
            have y1 : wc.cell? ⟨g7, 1, none⟩ = some (.slice A5 l.length c5) := blk_cell H7.out 1
            have C5 : (Kd.int .u8).C wc A5 l.length l := by
              obtain ⟨A, c, e, _, h⟩ := HO.out.slice
              cases e
              exact h
            have HC5 := Aside0.mk C5
            clear C5
            have L2 : l.length ≤ 65535 := by rw [HLL.out]; exact n1
            by_cases hok : okR (x1, l)
            · have hd : decide (okR (x1, l)) = true := decide_eq_true hok
              have HOK := Aside0.mk hok
              clear hok
              have hm3 := run_mid (some ad) b.length c (4 + (n : Int)) (4 + (n : Int) + 5 - 1) (by omega) (by omega) (by omega) hc
              obtain ⟨lm, hlm⟩ : ∃ lm, lm = (b.take (n + 8)).drop (4 + n) := ⟨_, rfl⟩
              have lml : lm.length = 4 := by rw [hlm, List.length_drop, List.length_take]; omega
              have hlm2 : lm = (b.drop (4 + n)).take 4 := by rw [hlm, List.drop_take]; congr 1; omega
              have C3 := Kd.C_mid (lo := 4 + n) (hi := n + 8) H.out (by omega) (by omega) hc
              rw [← hlm] at C3
              obtain ⟨A3, hA3⟩ : ∃ A3, A3 = (if c = 4 + n then some ad else (some ad).map (·.add ((4 + n) * 1))) := ⟨_, rfl⟩
              obtain ⟨c3, hc3⟩ : ∃ c3, c3 = c - (4 + n) := ⟨_, rfl⟩
              have hm4 : ∀ W : World, (Instr.slice 22 (.slice (some ad) b.length c) (some (.int .i64 (4 + (n : Int)))) (some (.int .i64 (4 + (n : Int) + 5 - 1))) none).run Try.prog W = .ok (.slice A3 lm.length c3) W := by
                intro W
                rw [hm3 W, hA3, hc3, lml, show (4 + (n : Int)).toNat = 4 + n by omega]
                congr 2
                omega
              have k3 : lm.length ≤ c3 := by omega
              have HC3 := Aside0.mk (show (Kd.int .u8).C w A3 lm.length lm by rw [hA3]; exact C3)
              have HLM := Aside0.mk hlm2
              clear hm3 hA3 C3 hlm hlm2 hc3 lml
              have u4 : IntKind.i64.wrap (4 + (n : Int)) = 4 + (n : Int) := IntWalk.i64_in _ ⟨by omega, by omega⟩
              have u5 : IntKind.i64.wrap (4 + (n : Int) + 5 - 1) = 4 + (n : Int) + 5 - 1 := IntWalk.i64_in _ ⟨by omega, by omega⟩
              obtain ⟨f4, hf4⟩ : ∃ f4, f4 = fourB (sumR (x1, l)) := ⟨_, rfl⟩
              have HF4 := Aside0.mk hf4
              clear hf4
              clear r0 r1 s0 s1 r2 s2 r3 s3
              by_cases he : f4 = lm
              · have hde : decide (f4 = lm) = true := decide_eq_true he
                have HX := Aside0.mk (show nextR b = ((x1, l), n + 9, 0) by unfold nextR; rw [if_neg (not_not_intro HWH.out), HHR.out, if_neg (not_not_intro HOK.out), ← HN.out, if_neg (not_not_intro (HF4.out.symm.trans (he.trans HLM.out)))])
                clear he
                go_wp2_with (go_at_call 32; go_must (refine (Right_calls (x1, l) A5 c5 _ (by exact HC5.out) k5).mono ?_; rw [hd]; rintro e w3 ⟨rfl, hbb⟩; have HB3 := Aside0.mk (below_step HB.out hbb); have z0 : w3.cell? ⟨g7, 0, none⟩ = some (.int .i64 x1) := pw_cell_below hbb y0; have z1 : w3.cell? ⟨g7, 1, none⟩ = some (.slice A5 l.length c5) := pw_cell_below hbb y1; have HH3 := Aside0.mk hbb; clear hbb))
                go_region_held3 (fun w' => w'.cell? ⟨g7, 0, none⟩ = some (.int .i64 x1) ∧ w'.cell? ⟨g7, 1, none⟩ = some (.slice A5 l.length c5))
                  (first
                    | exact ⟨z0, z1⟩
                    | exact ⟨v0, v1⟩
                    | exact ⟨s0, s1⟩
                    | exact ⟨r0, r1⟩)
                  (first
                    | (go_at_call 67; go_must (refine (sum_calls (x1, l) A5 c5 _ (by exact Kd.C_below HC5.out HH3.out.drew) k5).mono ?_; rintro e w4 ⟨rfl, hbb⟩; have HB4 := Aside0.mk (below_step HB3.out.drew hbb); have s0 : w4.cell? ⟨g7, 0, none⟩ = some (.int .i64 x1) := pw_cell_below hbb z0; have s1 : w4.cell? ⟨g7, 1, none⟩ = some (.slice A5 l.length c5) := pw_cell_below hbb z1; have HH4 := Aside0.mk (below_step HH3.out.drew hbb); clear hbb))
                    | (go_at_call 66; go_must (refine (four_calls _ _).mono ?_; rintro e w5 ⟨vv, rfl, O4, hbb⟩; rw [← HF4.out] at O4; have hs4 := OwnB.slice O4; obtain ⟨A4, c4, hvv, k4, C4⟩ := hs4; subst hvv; have HC4 := Aside0.mk C4; have HB5 := Aside0.mk (below_step HB4.out hbb); have v0 : w5.cell? ⟨g7, 0, none⟩ = some (.int .i64 x1) := pw_cell_below hbb s0; have v1 : w5.cell? ⟨g7, 1, none⟩ = some (.slice A5 l.length c5) := pw_cell_below hbb s1; have HH5 := Aside0.mk (below_step HH4.out hbb); clear hbb C4 O4))
                    | (go_at_call 93; go_must (refine (Equal_calls A4 A3 c4 c3 f4 lm _ (by exact HC4.out) (by exact Kd.C_below HC3.out HB5.out) k4 k3 (by rw [HF4.out]; simp [fourB])).mono ?_; rw [hde]; rintro e w6 ⟨rfl, hdr⟩; have HB6 := Aside0.mk (below_step HB5.out hdr.below); have r0 : w6.cell? ⟨g7, 0, none⟩ = some (.int .i64 x1) := pw_cell_below hdr.below v0; have r1 : w6.cell? ⟨g7, 1, none⟩ = some (.slice A5 l.length c5) := pw_cell_below hdr.below v1; have HH6 := Aside0.mk (below_step HH5.out hdr.below); have hgb : w6.heap[w.heap.size]? = some (.cells #[.int .i64 0, .slice none 0 0] 49 (0, 0)) := blk_below HG.out HH6.out; have t0 : w6.cell? ⟨w.heap.size, 0, none⟩ = some (.int .i64 0) := blk_cell hgb 0; have t1 : w6.cell? ⟨w.heap.size, 1, none⟩ = some (.slice none 0 0) := blk_cell hgb 1; have f0 := blk_frozen hgb 0; have f1 := blk_frozen hgb 1; have HGB := Aside0.mk hgb; clear hdr hgb)))
                all_goals
                  go_wp2_with fail
                  refine bodyPost_ret (results_ctt rfl _ _ w.heap.size 49 #[.int .i64 x1, .slice A5 l.length c5] (0, 0) _ rfl (blk_put (blk_put HGB.out 0 _ rfl) 1 _ rfl) Try.underlying49 rfl (by kernel_rfl)) rfl ?_
                  exact ⟨.slice A5 l.length c5, by rw [HX.out]; show _ = Ending.returned (.tuple #[.agg #[.int .i64 x1, .slice A5 l.length c5], .int .i64 ((n + 9 : Nat) : Int), .int .i64 0]); rw [show ((n + 9 : Nat) : Int) = 4 + (n : Int) + 5 by omega]; rfl, by rw [HX.out]; exact own_put2 (HO.out.below HH6.out) (by omega) (by omega), below_set (below_set HB6.out (Nat.le_refl _)) (Nat.le_refl _)⟩
              · have hde : decide (f4 = lm) = false := decide_eq_false he
                have HX := Aside0.mk (show nextR b = ((0, []), 0, 9) by unfold nextR; rw [if_neg (not_not_intro HWH.out), HHR.out, if_neg (not_not_intro HOK.out), ← HN.out, if_pos (fun h => he (HF4.out.trans (h.trans HLM.out.symm)))])
                clear he
                go_wp2_with (go_at_call 32; go_must (refine (Right_calls (x1, l) A5 c5 _ (by exact HC5.out) k5).mono ?_; rw [hd]; rintro e w3 ⟨rfl, hbb⟩; have HB3 := Aside0.mk (below_step HB.out hbb); have z0 : w3.cell? ⟨g7, 0, none⟩ = some (.int .i64 x1) := pw_cell_below hbb y0; have z1 : w3.cell? ⟨g7, 1, none⟩ = some (.slice A5 l.length c5) := pw_cell_below hbb y1; have HH3 := Aside0.mk hbb; clear hbb))
                go_region_held3 (fun w' => w'.cell? ⟨g7, 0, none⟩ = some (.int .i64 x1) ∧ w'.cell? ⟨g7, 1, none⟩ = some (.slice A5 l.length c5))
                  (first
                    | exact ⟨z0, z1⟩
                    | exact ⟨v0, v1⟩
                    | exact ⟨s0, s1⟩
                    | exact ⟨r0, r1⟩)
                  (first
                    | (go_at_call 67; go_must (refine (sum_calls (x1, l) A5 c5 _ (by exact Kd.C_below HC5.out HH3.out.drew) k5).mono ?_; rintro e w4 ⟨rfl, hbb⟩; have HB4 := Aside0.mk (below_step HB3.out.drew hbb); have s0 : w4.cell? ⟨g7, 0, none⟩ = some (.int .i64 x1) := pw_cell_below hbb z0; have s1 : w4.cell? ⟨g7, 1, none⟩ = some (.slice A5 l.length c5) := pw_cell_below hbb z1; have HH4 := Aside0.mk (below_step HH3.out.drew hbb); clear hbb))
                    | (go_at_call 66; go_must (refine (four_calls _ _).mono ?_; rintro e w5 ⟨vv, rfl, O4, hbb⟩; rw [← HF4.out] at O4; have hs4 := OwnB.slice O4; obtain ⟨A4, c4, hvv, k4, C4⟩ := hs4; subst hvv; have HC4 := Aside0.mk C4; have HB5 := Aside0.mk (below_step HB4.out hbb); have v0 : w5.cell? ⟨g7, 0, none⟩ = some (.int .i64 x1) := pw_cell_below hbb s0; have v1 : w5.cell? ⟨g7, 1, none⟩ = some (.slice A5 l.length c5) := pw_cell_below hbb s1; have HH5 := Aside0.mk (below_step HH4.out hbb); clear hbb C4 O4))
                    | (go_at_call 93; go_must (refine (Equal_calls A4 A3 c4 c3 f4 lm _ (by exact HC4.out) (by exact Kd.C_below HC3.out HB5.out) k4 k3 (by rw [HF4.out]; simp [fourB])).mono ?_; rw [hde]; rintro e w6 ⟨rfl, hdr⟩; have HB6 := Aside0.mk (below_step HB5.out hdr.below); have r0 : w6.cell? ⟨g7, 0, none⟩ = some (.int .i64 x1) := pw_cell_below hdr.below v0; have r1 : w6.cell? ⟨g7, 1, none⟩ = some (.slice A5 l.length c5) := pw_cell_below hdr.below v1; have HH6 := Aside0.mk (below_step HH5.out hdr.below); have hgb : w6.heap[w.heap.size]? = some (.cells #[.int .i64 0, .slice none 0 0] 49 (0, 0)) := blk_below HG.out HH6.out; have t0 : w6.cell? ⟨w.heap.size, 0, none⟩ = some (.int .i64 0) := blk_cell hgb 0; have t1 : w6.cell? ⟨w.heap.size, 1, none⟩ = some (.slice none 0 0) := blk_cell hgb 1; have f0 := blk_frozen hgb 0; have f1 := blk_frozen hgb 1; have HGB := Aside0.mk hgb; clear hdr hgb)))
                all_goals
                  go_wp2_with fail
                  refine bodyPost_ret (results_ctt rfl _ _ w.heap.size 49 #[.int .i64 0, .slice none 0 0] (0, 0) _ rfl (blk_put (blk_put HGB.out 0 _ rfl) 1 _ rfl) Try.underlying49 rfl (by kernel_rfl)) rfl ?_
                  exact ⟨.slice none 0 0, by rw [HX.out]; rfl, by rw [HX.out]; exact own_nil _ _ _ _, below_set (below_set HB6.out (Nat.le_refl _)) (Nat.le_refl _)⟩
            · have hd : decide (okR (x1, l)) = false := decide_eq_false hok
              have HX := Aside0.mk (show nextR b = ((0, []), 0, 3) by unfold nextR; rw [if_neg (not_not_intro HWH.out), HHR.out, if_pos hok])
              clear hok
              go_wp2_with (go_at_call 32; go_must (refine (Right_calls (x1, l) A5 c5 _ (by exact HC5.out) k5).mono ?_; rw [hd]; rintro e w3 ⟨rfl, hbb⟩; have HB3 := Aside0.mk (below_step HB.out hbb); have hgb : w3.heap[w.heap.size]? = some (.cells #[.int .i64 0, .slice none 0 0] 49 (0, 0)) := blk_below HG.out hbb; have z0 : w3.cell? ⟨w.heap.size, 0, none⟩ = some (.int .i64 0) := blk_cell hgb 0; have z1 : w3.cell? ⟨w.heap.size, 1, none⟩ = some (.slice none 0 0) := blk_cell hgb 1; have f0 := blk_frozen hgb 0; have f1 := blk_frozen hgb 1; have HGB := Aside0.mk hgb; clear hbb hgb))
              refine bodyPost_ret (results_ctt rfl _ _ w.heap.size 49 #[.int .i64 0, .slice none 0 0] (0, 0) _ rfl (blk_put (blk_put HGB.out 0 _ rfl) 1 _ rfl) Try.underlying49 rfl (by kernel_rfl)) rfl ?_
              exact ⟨.slice none 0 0, by rw [HX.out]; rfl, by rw [HX.out]; exact own_nil _ _ _ _, below_set (below_set HB3.out (Nat.le_refl _)) (Nat.le_refl _)⟩
        · have HX := Aside0.mk (show nextR b = ((0, []), 0, 0) from if_pos (fun h => h8 (by rw [X8.out, HN.out]; exact h.2.2.2)))
          have q8 : (x8 != 165) = true := by simp [h8]
          have q9 : (x8 == 165) = false := by simp [h8]
          go_enter Try.func68, Try.ntmps68
          go_wp2_with fail
          go_region
          go_wp2_with fail
          refine bodyPost_ret (results_ctt rfl _ _ w.heap.size 49 #[.int .i64 0, .slice none 0 0] (0, 0) _ rfl (blk_drew (heap_at rfl)) Try.underlying49 rfl (by kernel_rfl)) rfl ?_
          exact ⟨.slice none 0 0, by rw [HX.out]; rfl, by rw [HX.out]; exact own_nil _ _ _ _, (below_alloc (Below.refl _ _) _).drew⟩
      · have HX := Aside0.mk (show nextR b = ((0, []), 0, 0) from if_pos (fun h => hl (by have := h.2.2.1; rw [HN.out]; exact this)))
        have p1 : decide ((b.length : Int) < ((n + 9 : Nat) : Int)) = true := decide_eq_true (by omega)
        go_enter Try.func68, Try.ntmps68
        go_wp2_with fail
        go_region
        go_wp2_with fail
        refine bodyPost_ret (results_ctt rfl _ _ w.heap.size 49 #[.int .i64 0, .slice none 0 0] (0, 0) _ rfl (blk_drew (heap_at rfl)) Try.underlying49 rfl (by kernel_rfl)) rfl ?_
        exact ⟨.slice none 0 0, by rw [HX.out]; rfl, by rw [HX.out]; exact own_nil _ _ _ _, (below_alloc (Below.refl _ _) _).drew⟩
    · have HX := Aside0.mk (show nextR b = ((0, []), 0, 0) from if_pos (fun h => h0 (X0.out.trans h.2.1)))
      go_enter Try.func68, Try.ntmps68
      go_wp2_with fail
      refine bodyPost_ret (results_ctt rfl _ _ w.heap.size 49 #[.int .i64 0, .slice none 0 0] (0, 0) _ rfl (heap_at rfl) Try.underlying49 rfl (by kernel_rfl)) rfl ?_
      exact ⟨.slice none 0 0, by rw [HX.out]; rfl, by rw [HX.out]; exact own_nil _ _ _ _, below_alloc (Below.refl _ _) _⟩
  · have HX := Aside0.mk (show nextR b = ((0, []), 0, 0) from if_pos (fun h => h9 h.1))
    clear h
    have q1 : decide ((b.length : Int) < 9) = true := decide_eq_true (by omega)
    have q2 : b.length < 9 := by omega
    go_enter Try.func68, Try.ntmps68
    go_wp2_with fail
    refine bodyPost_ret (results_ctt rfl _ _ w.heap.size 49 #[.int .i64 0, .slice none 0 0] (0, 0) _ rfl (heap_at rfl) Try.underlying49 rfl (by kernel_rfl)) rfl ?_
    exact ⟨.slice none 0 0, by rw [HX.out]; rfl, by rw [HX.out]; exact own_nil _ _ _ _, below_alloc (Below.refl _ _) _⟩
end Go.Proofs.Ytmbemlpmfklddaa.Own
