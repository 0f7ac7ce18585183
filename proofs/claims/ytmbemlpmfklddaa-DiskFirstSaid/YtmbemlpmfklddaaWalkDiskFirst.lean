/- The walk of DiskFirst: behind a crash a disk is as one to which the first bytes alone were written. -/
import Derived.Test.YtmbemlpmfklddaaWalkDiskGoes
import Derived.Test.YtmbemlpmfklddaaStructs
import Derived.Test.YtmbemlpmfklddaaFirst
import Derived.Deep.RegionWith
import Derived.Deep.RegionLaw
namespace Go.Proofs.Ytmbemlpmfklddaa.Own
open Go.RowKit Go.Proofs.YtmbemlpmfklddaaW.PrintWords Go.Proofs.YtmbemlpmfklddaaW.PrintLast Go.Proofs.YtmbemlpmfklddaaW.PrintMore
theorem i64_range {x : Int} (h : (Lit.int .i64 x).wf = true) : -9223372036854775808 ≤ x ∧ x ≤ 9223372036854775807 := by
  simp [Lit.wf, IntKind.min, IntKind.max, IntKind.signed, IntKind.bits] at h
  omega
/-- Cells of one's own. -/
def CellsT (g : Nat) (cs : Array Value) (t : TypeId) : Thing where
  at_ W S := W.heap[g]? = some (.cells cs t (0, 0)) ∧ ∀ k, S k ↔ k = g
  chg h hc hn := ⟨hc.blk h.1 (hn g ((h.2 g).2 rfl)), h.2⟩
  lt h k hk := by rw [(h.2 k).1 hk]; exact blk_lt h.1
theorem Here.cells {w W : World} {Ps : List Thing} {g : Nat} {cs : Array Value} {t : TypeId} (h : Here w W (CellsT g cs t :: Ps)) : W.heap[g]? = some (.cells cs t (0, 0)) := by
  obtain ⟨S, h1, _⟩ := h.get
  exact h1.1
theorem Here.newCells {w W : World} {Ps : List Thing} (h : Here w W Ps) (cs : Array Value) (t : TypeId) : Here w (W.alloc (.cells cs t)) (CellsT W.heap.size cs t :: Ps) :=
  h.add (P := CellsT W.heap.size cs t) (S' := fun k => k = W.heap.size) ⟨heap_alloc_new _ _, fun _ => Iff.rfl⟩ (below_alloc (Below.refl _ _) _) (fun k hk => by omega)
theorem settle_q (d : Dm) (last : Int) : (d.settle last).q = [] := rfl
theorem settle_len (d : Dm) (last : Int) : (d.settle last).b.length = d.b.length := putAll_length _ _
set_option maxHeartbeats 4000000 in
set_option maxRecDepth 100000 in
theorem DiskFirst_calls (A0 : Option Addr) (c0 : Nat) (xs : List Op12) (last : Int) (w : World)
    (h0 : k37.C w A0 xs.length xs) (_k0 : xs.length ≤ c0) (b1 : -9223372036854775808 ≤ last) (b2 : last ≤ 9223372036854775807) (hQ : ∀ x ∈ xs, Q37 x) :
    Calls Try.prog 6 #[.slice A0 xs.length c0, .int .i64 last] w fun e w' => e = .returned (.bool true) ∧ Below w.heap.size w w' := by
  have H0 := Aside0.mk h0
  have HQ := Aside0.mk hQ
  have HH := Aside0.mk (Here.nil w)
  have m0 := h0.2.1
  clear h0 hQ
  have t1 : True := trivial
  go_enter Try.func6, Try.ntmps6
  go_wp2_with (first
    | (go_at_call 20; have _t := t1; go_must (refine (New_here HH.out 300 (by decide) (by decide)).mono ?_; rintro e w1 ⟨ga, rfl, h⟩; have HH1 := Aside0.mk h; clear HH h t1))
    | (go_at_call 20; go_must (refine (New_here HH1.out 300 (by decide) (by decide)).mono ?_; rintro e w2 ⟨gb, rfl, h⟩; have HH2 := Aside0.mk h; clear HH1 h)))
  go_loopw [9, 10, 11, 12] (fun v9 v10 v11 v12 wr => ∃ (i : Nat) (left : Int) (a b : Dm), v9 = .int .i64 left ∧ v10 = .int .i64 i ∧ i ≤ xs.length ∧ i ≤ 60 ∧ -9223372036854775808 ≤ left ∧ left ≤ 9223372036854775807 ∧
      Aside0 (First last (pend a.q) a b left i) ∧ Aside0 (Here w wr [DiskT gb b, DiskT ga a])) (fun _ v10 _ _ _ => 60 - (intOf v10).toNat)
  case atStart => exact ⟨0, last, _, _, rfl, rfl, by omega, by omega, b1, b2, ⟨First.start last⟩, HH2⟩
  case round =>
    obtain ⟨i, left, a, b, rfl, rfl, hi1, hi2, r1, r2, HF, HH⟩ := hrel
    clear HH2
    obtain ⟨wo, hwo⟩ : ∃ wo, wo = wr := ⟨_, rfl⟩
    subst hwo
    by_cases hlt : i < xs.length ∧ i < 60
    · obtain ⟨hlt1, hlt2⟩ := hlt
      have q1 : decide ((i : Int) < (xs.length : Int)) = true := decide_eq_true (by omega)
      have q2 : decide ((i : Int) < 60) = true := decide_eq_true (by omega)
      obtain ⟨ad, A3, c3, rfl, e0, e1, e2, e3, k3, C3⟩ := at37 H0.out i hlt1 rfl
      replace e0 := pw_cell_below HH.out.below e0
      replace e1 := pw_cell_below HH.out.below e1
      replace e2 := pw_cell_below HH.out.below e2
      replace e3 := pw_cell_below HH.out.below e3
      have hq := HQ.out xs[i] (List.getElem_mem hlt1)
      generalize xs[i] = o at e0 e1 e2 e3 k3 C3 hq
      obtain ⟨kd, p, nn, bs⟩ := o
      obtain ⟨⟨z0, z1⟩, ⟨z2, z3⟩, ⟨z4, z5⟩, hb⟩ := hq
      simp only at e0 e1 e2 e3 k3 C3 z0 z1 z2 z3 z4 z5
      have HC3 := Aside0.mk C3
      have HBS := Aside0.mk hb
      have mb := C3.2.1
      clear C3 hb
      by_cases hsk : bs.length ≤ 500 ∧ kd = 0 ∧ a.fits p bs.length
      · obtain ⟨g1, rfl, g3⟩ := hsk
        have q3 : decide ((500 : Int) < (bs.length : Int)) = false := decide_eq_false (by omega)
        have HO := Aside0.mk (HH.out.newCells #[Value.int .i64 0, Value.int .i64 p, Value.int .i64 nn, Value.slice A3 bs.length c3] 37)
        have HWB := Aside0.mk HH.out.below
        clear HH
        go_wp2_with (go_at_call 21; go_must (refine (Write_here (d := a) (g := ga) HO.out.third (by have := HF.out.qa; omega) p A3 c3 bs (Kd.C_below HC3.out (below_alloc HWB.out _)) g3).mono ?_; rintro e w3 ⟨rfl, h⟩; have HH3 := Aside0.mk h.swap.third; clear HO h))
        go_loopw [9, 12] (fun v9 v12 wr => ∃ (k : Nat) (lf : Int) (b2 : Dm), v9 = .int .i64 lf ∧ v12 = .int .i64 k ∧ k ≤ bs.length ∧ -9223372036854775808 ≤ lf ∧ lf ≤ 9223372036854775807 ∧
          Aside0 (First last (pend a.q ++ (pendOf (p, bs)).take k) (a.write p bs) b2 lf (i + 1)) ∧ Aside0 (b2.q.length ≤ i * 500 + k) ∧ Aside0 (Here w wr [DiskT gb b2, CellsT wo.heap.size #[Value.int .i64 0, Value.int .i64 p, Value.int .i64 nn, Value.slice A3 bs.length c3] 37, DiskT ga (a.write p bs)])) (fun _ v12 _ => bs.length - (intOf v12).toNat)
        case atStart => exact ⟨0, left, b, rfl, rfl, by omega, r1, r2, ⟨by rw [List.take_zero, List.append_nil]; exact HF.out.wrote g3⟩, ⟨HF.out.qb⟩, HH3⟩
        case round =>
          obtain ⟨k, lf, b2, rfl, rfl, hk1, s1, s2, HI, HL, HH4⟩ := hrel
          have cc := Here.cells (Here.nth HH4.out 1 (by simp))
          have cc1 : wr.cell? ⟨wo.heap.size, 1, none⟩ = some (.int .i64 p) := cell_of_row wr _ 1 _ _ _ cc
          have cc3 : wr.cell? ⟨wo.heap.size, 3, none⟩ = some (.slice A3 bs.length c3) := cell_of_row wr _ 3 _ _ _ cc
          clear cc
          by_cases hl1 : k < bs.length
          · have p1 : decide ((k : Int) < (bs.length : Int)) = true := decide_eq_true (by omega)
            by_cases hl2 : 0 < lf
            · have p2 : decide (0 < lf) = true := decide_eq_true hl2
              have hm := run_mid A3 bs.length c3 k ((k : Int) + 1) (by omega) (by omega) (by omega) k3
              have u1 : IntKind.i64.wrap ((k : Int) + 1) = (k : Int) + 1 := IntWalk.i64_in _ ⟨by omega, by omega⟩
              obtain ⟨gp0, _, gp2⟩ := g3
              have u2 : IntKind.i64.wrap (p + (k : Int)) = p + (k : Int) := IntWalk.i64_in _ ⟨by omega, by have := HF.out.la; omega⟩
              have u3 : IntKind.i64.wrap (lf - 1) = lf - 1 := IntWalk.i64_in _ ⟨by omega, by omega⟩
              obtain ⟨a2, ha2⟩ : ∃ a2, a2 = (if c3 = (k : Int).toNat then A3 else A3.map (·.add ((k : Int).toNat * 1))) := ⟨_, rfl⟩
              have hc1 : (Kd.int .u8).C w a2 [bs[k]].length [bs[k]] := by
                have := Kd.C_mid (lo := k) (hi := k + 1) HC3.out (by omega) (by omega) k3
                have e : (bs.take (k + 1)).drop k = [bs[k]] := by
                  rw [List.take_add_one, List.drop_left' (by rw [List.length_take]; omega), List.getElem?_eq_getElem hl1]
                  rfl
                rw [e] at this
                rw [ha2]
                exact this
              have HC1 := Aside0.mk hc1
              obtain ⟨c2, hc2⟩ : ∃ c2, c2 = c3 - (k : Int).toNat := ⟨_, rfl⟩
              rw [← ha2, ← hc2, show ((k : Int) + 1).toNat - (k : Int).toNat = 1 from by omega] at hm
              clear ha2 hc1 hc2
              have HP := Aside0.mk (show (pendOf (p, bs)).take (k + 1) = (pendOf (p, bs)).take k ++ [((p + k).toNat, bs[k])] from by
                rw [pendOf_get (p, bs) k hl1]; rw [show (p + (k : Int)).toNat = p.toNat + k from by omega])
              have HX := Aside0.mk (HI.out.byte (p := p + k) (x := bs[k]) (M := i + 1) hl2 (by omega) (by have := HF.out.la; omega) (by have := HL.out; omega) (by have := HF.out.qa; simp only [Dm.write, List.length_append, List.length_singleton]; omega))
              have HY := Aside0.mk (show b2.fits (p + k) [bs[k]].length from ⟨by omega, by simp, by rw [HI.out.same, HI.out.la, List.length_singleton]; have := HF.out.la; omega⟩)
              go_wp2_with fail
              go_region_with (go_at_call 21; go_must (refine (Write_here (d := b2) (g := gb) (Ps := [CellsT wo.heap.size #[Value.int .i64 0, Value.int .i64 p, Value.int .i64 nn, Value.slice A3 bs.length c3] 37, DiskT ga (a.write p bs)]) (by exact HH4.out.drew) (by have := HL.out; omega) (p + k) a2 c2 [bs[k]] (by exact Kd.C_below HC1.out HH4.out.drew.below) HY.out).mono ?_; rintro e w3 ⟨rfl, h⟩; have HH5 := Aside0.mk h; clear HH4 h))
              all_goals
                go_wp2_with fail
                go_roundw
                case rel =>
                  exact ⟨k + 1, lf - 1, b2.write (p + k) [bs[k]], rfl, by go_num, by omega, by omega, by omega, ⟨by rw [HP.out, ← List.append_assoc]; exact HX.out⟩, ⟨by have := HL.out; simp only [Dm.write, List.length_append, List.length_singleton]; omega⟩, HH5⟩
                case measure => simp [intOf]; omega
            · have p2 : decide (0 < lf) = false := decide_eq_false hl2
              have hr : (pendOf (p, bs)) = (pendOf (p, bs)).take k ++ (pendOf (p, bs)).drop k := (List.take_append_drop _ _).symm
              have HX := Aside0.mk (show First last (pend (a.write p bs).q) (a.write p bs) b2 lf (i + 1) by
                rw [pend_write, hr, ← List.append_assoc]
                exact HI.out.full (by omega) _)
              clear hr
              go_wp2_with fail
              go_roundw
              case rel => exact ⟨i + 1, lf, a.write p bs, b2, rfl, by go_num, by omega, by omega, s1, s2, HX, ⟨HH4.out.swap.drop⟩⟩
              case measure => simp [intOf]; omega
          · have p1 : decide ((k : Int) < (bs.length : Int)) = false := decide_eq_false (by omega)
            have HX := Aside0.mk (show First last (pend (a.write p bs).q) (a.write p bs) b2 lf (i + 1) by
              rw [pend_write, show pendOf (p, bs) = (pendOf (p, bs)).take k from (List.take_of_length_le (by rw [pendOf_length]; simp only; omega)).symm]
              exact HI.out)
            go_wp2_with fail
            go_roundw
            case rel => exact ⟨i + 1, lf, a.write p bs, b2, rfl, by go_num, by omega, by omega, s1, s2, HX, ⟨HH4.out.swap.drop⟩⟩
            case measure => simp [intOf]; omega
      · by_cases g1 : bs.length ≤ 500
        · have q3 : decide ((500 : Int) < (bs.length : Int)) = false := decide_eq_false (by omega)
          by_cases g2 : kd = 0
          · subst g2
            have g3 : ¬ a.fits p bs.length := fun h => hsk ⟨g1, rfl, h⟩
            clear hsk
            have HO := Aside0.mk (HH.out.newCells #[Value.int .i64 0, Value.int .i64 p, Value.int .i64 nn, Value.slice A3 bs.length c3] 37)
            clear HH
            go_wp2_with (go_at_call 21; go_must (refine (WriteNo_here (d := a) (g := ga) HO.out.third p A3 c3 bs.length mb g3).mono ?_; rintro e w3 ⟨rfl, rfl⟩))
            go_roundw
            case rel => exact ⟨i + 1, left, a, b, rfl, by go_num, by omega, by omega, r1, r2, ⟨HF.out.more⟩, ⟨HO.out.drop⟩⟩
            case measure => simp [intOf]; omega
          · clear hsk
            go_wp2_with fail
            go_roundw
            case rel => exact ⟨i + 1, left, a, b, rfl, by go_num, by omega, by omega, r1, r2, ⟨HF.out.more⟩, ⟨HH.out.alloc _⟩⟩
            case measure => simp [intOf]; omega
        · have q3 : decide ((500 : Int) < (bs.length : Int)) = true := decide_eq_true (by omega)
          clear hsk
          go_wp2_with fail
          go_roundw
          case rel => exact ⟨i + 1, left, a, b, rfl, by go_num, by omega, by omega, r1, r2, ⟨HF.out.more⟩, ⟨HH.out.alloc _⟩⟩
          case measure => simp [intOf]; omega
    · have hr : ∀ Q : Prop, (decide ((i : Int) < (xs.length : Int)) = false → Q) → (decide ((i : Int) < (xs.length : Int)) = true → decide ((i : Int) < 60) = false → Q) → Q := by
        intro Q q1 q2
        by_cases h : i < xs.length
        · exact q2 (decide_eq_true (by omega)) (decide_eq_false (by omega))
        · exact q1 (decide_eq_false (by omega))
      clear hlt
      have u1 : True := trivial
      have u2 : True := trivial
      have u3 : True := trivial
      obtain ⟨X, hX⟩ : ∃ X, X = (a.settle last).read 0 300 := ⟨_, rfl⟩
      have x1 := Aside0.mk hX.symm
      have x2 := Aside0.mk (show b.flush.read 0 300 = X by
        rw [hX]
        unfold Dm.read
        rw [HF.out.final])
      have fb := Aside0.mk (show b.flush.b.length = 300 by
        show b.now.length = 300
        rw [Dm.now_length HF.out.okb, HF.out.same, HF.out.la])
      clear hX
      refine hr _ (fun p1 => ?_) (fun p1 p2 => ?_)
      · clear hr
        have n1 : ¬ i < xs.length := by have := of_decide_eq_false p1; omega
        go_wp2_with (first
          | (go_at_call 22; have _t := u1; go_must (refine (Crash_here (d := a) (g := ga) HH.out.swap (by have := HF.out.qa; omega) last).mono ?_; rintro e w3 ⟨rfl, h⟩; have HH3 := Aside0.mk h; clear HH h u1))
          | (go_at_call 23; go_must (refine (Flush_here (d := b) (g := gb) HH3.out.swap (by have := HF.out.qb; omega)).mono ?_; rintro e w4 ⟨rfl, h⟩; have HH4 := Aside0.mk h; clear HH3 h))
          | (go_at_call 24; have _t := u2; go_must (refine (Read_here (d := a.settle last) (g := ga) HH4.out.swap (by rw [settle_q]; simp) 0 300 ⟨by omega, by omega, by rw [settle_len, HF.out.la]; omega⟩).mono ?_; rw [x1.out]; rintro e w5 ⟨v, rfl, h⟩; obtain ⟨Ax, cx, rfl, kx, Cx⟩ := h.bytes.slice; clear Cx; have HH5 := Aside0.mk h; clear HH4 h u2))
          | (go_at_call 24; have _t := u3; go_must (refine (Read_here (d := b.flush) (g := gb) HH5.out.third (by rw [flush_q]; simp) 0 300 ⟨by omega, by omega, by rw [fb.out]; omega⟩).mono ?_; rw [x2.out]; rintro e w6 ⟨v, rfl, h⟩; obtain ⟨Ay, cy, rfl, ky, Cy⟩ := h.bytes.slice; clear Cy; have HH6 := Aside0.mk h; clear HH5 h u3))
          | (go_at_call 22; go_must (refine (Crash_here (d := b.flush) (g := gb) HH6.out.swap (by rw [flush_q]; simp) last).mono ?_; rw [settle_nil (flush_q b)]; rintro e w7 ⟨rfl, h⟩; have HH7 := Aside0.mk h; clear HH6 h))
          | (go_at_call 24; go_must (refine (Read_here (d := b.flush) (g := gb) HH7.out (by rw [flush_q]; simp) 0 300 ⟨by omega, by omega, by rw [fb.out]; omega⟩).mono ?_; rw [x2.out]; rintro e w8 ⟨v, rfl, h⟩; obtain ⟨Az, cz, rfl, kz, Cz⟩ := h.bytes.slice; clear Cz; have HH8 := Aside0.mk h; clear HH7 h))
          | (go_at_call 25; go_must (refine (alive12 _).mono ?_; rintro e w14 ⟨rfl, hb⟩; have HHe := Aside0.mk (HH8.out.then_ hb); clear HH8 hb; have s1 := Kd.C_string (P := Try.prog) (A := Ax) (c := cx) Try.underlying22 Try.underlying5 Try.underlying9 (by obtain ⟨A, c, e, _, h⟩ := (Here.nth HHe.out 3 (by simp)).bytes.slice; cases e; exact h); have s2 := Kd.C_string (P := Try.prog) (A := Ay) (c := cy) Try.underlying22 Try.underlying5 Try.underlying9 (by obtain ⟨A, c, e, _, h⟩ := (Here.nth HHe.out 2 (by simp)).bytes.slice; cases e; exact h); have s3 := Kd.C_string (P := Try.prog) (A := Az) (c := cz) Try.underlying22 Try.underlying5 Try.underlying9 (by obtain ⟨A, c, e, _, h⟩ := (Here.nth HHe.out 0 (by simp)).bytes.slice; cases e; exact h)))
          | (go_at_call 26; go_must (refine (Waits_here (d := a.settle last) (g := ga) (Here.nth HHe.out 4 (by simp)) (by rw [settle_q]; simp)).mono ?_; rw [show (a.settle last).waits = 0 from rfl]; rintro e w15 ⟨rfl, h⟩; have HHf := Aside0.mk h; clear HHe h)))
        go_ret
        exact ⟨rfl, HHf.out.below⟩
      · clear hr
        have n1 : i < xs.length := by have := of_decide_eq_true p1; omega
        have n2 : ¬ i < 60 := by have := of_decide_eq_false p2; omega
        go_wp2_with (first
          | (go_at_call 22; have _t := u1; go_must (refine (Crash_here (d := a) (g := ga) HH.out.swap (by have := HF.out.qa; omega) last).mono ?_; rintro e w3 ⟨rfl, h⟩; have HH3 := Aside0.mk h; clear HH h u1))
          | (go_at_call 23; go_must (refine (Flush_here (d := b) (g := gb) HH3.out.swap (by have := HF.out.qb; omega)).mono ?_; rintro e w4 ⟨rfl, h⟩; have HH4 := Aside0.mk h; clear HH3 h))
          | (go_at_call 24; have _t := u2; go_must (refine (Read_here (d := a.settle last) (g := ga) HH4.out.swap (by rw [settle_q]; simp) 0 300 ⟨by omega, by omega, by rw [settle_len, HF.out.la]; omega⟩).mono ?_; rw [x1.out]; rintro e w5 ⟨v, rfl, h⟩; obtain ⟨Ax, cx, rfl, kx, Cx⟩ := h.bytes.slice; clear Cx; have HH5 := Aside0.mk h; clear HH4 h u2))
          | (go_at_call 24; have _t := u3; go_must (refine (Read_here (d := b.flush) (g := gb) HH5.out.third (by rw [flush_q]; simp) 0 300 ⟨by omega, by omega, by rw [fb.out]; omega⟩).mono ?_; rw [x2.out]; rintro e w6 ⟨v, rfl, h⟩; obtain ⟨Ay, cy, rfl, ky, Cy⟩ := h.bytes.slice; clear Cy; have HH6 := Aside0.mk h; clear HH5 h u3))
          | (go_at_call 22; go_must (refine (Crash_here (d := b.flush) (g := gb) HH6.out.swap (by rw [flush_q]; simp) last).mono ?_; rw [settle_nil (flush_q b)]; rintro e w7 ⟨rfl, h⟩; have HH7 := Aside0.mk h; clear HH6 h))
          | (go_at_call 24; go_must (refine (Read_here (d := b.flush) (g := gb) HH7.out (by rw [flush_q]; simp) 0 300 ⟨by omega, by omega, by rw [fb.out]; omega⟩).mono ?_; rw [x2.out]; rintro e w8 ⟨v, rfl, h⟩; obtain ⟨Az, cz, rfl, kz, Cz⟩ := h.bytes.slice; clear Cz; have HH8 := Aside0.mk h; clear HH7 h))
          | (go_at_call 25; go_must (refine (alive12 _).mono ?_; rintro e w14 ⟨rfl, hb⟩; have HHe := Aside0.mk (HH8.out.then_ hb); clear HH8 hb; have s1 := Kd.C_string (P := Try.prog) (A := Ax) (c := cx) Try.underlying22 Try.underlying5 Try.underlying9 (by obtain ⟨A, c, e, _, h⟩ := (Here.nth HHe.out 3 (by simp)).bytes.slice; cases e; exact h); have s2 := Kd.C_string (P := Try.prog) (A := Ay) (c := cy) Try.underlying22 Try.underlying5 Try.underlying9 (by obtain ⟨A, c, e, _, h⟩ := (Here.nth HHe.out 2 (by simp)).bytes.slice; cases e; exact h); have s3 := Kd.C_string (P := Try.prog) (A := Az) (c := cz) Try.underlying22 Try.underlying5 Try.underlying9 (by obtain ⟨A, c, e, _, h⟩ := (Here.nth HHe.out 0 (by simp)).bytes.slice; cases e; exact h)))
          | (go_at_call 26; go_must (refine (Waits_here (d := a.settle last) (g := ga) (Here.nth HHe.out 4 (by simp)) (by rw [settle_q]; simp)).mono ?_; rw [show (a.settle last).waits = 0 from rfl]; rintro e w15 ⟨rfl, h⟩; have HHf := Aside0.mk h; clear HHe h)))
        go_ret
        exact ⟨rfl, HHf.out.below⟩
end Go.Proofs.Ytmbemlpmfklddaa.Own
