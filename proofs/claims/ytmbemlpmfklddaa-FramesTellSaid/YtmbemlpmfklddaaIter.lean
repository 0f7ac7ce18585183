/- The iterator of a disk's waiting bytes. -/
import Derived.RangeFuncNested
import Derived.RangeFuncBound
import Derived.RangeFuncCalls
import Derived.RangeFuncLeaves
import Derived.RangeFuncWrites
import Derived.WalkKit
import Derived.OwnWalkIn
import Derived.TacticsInMore
import Derived.LoopNIn
import Derived.LoopIn
import Derived.Test.YtmbemlpmfklddaaDisk2
namespace Go.Proofs.Ytmbemlpmfklddaa.Own
open Go.RowKit Go.Proofs.YtmbemlpmfklddaaW.PrintWords Go.Proofs.YtmbemlpmfklddaaW.PrintLast Go.Proofs.YtmbemlpmfklddaaW.PrintMore
attribute [local go_sem] Oper.semAt_some
/-- What a round keeps: all blocks that lay below n0, and all cells, but for two blocks. -/
structure KpD (n0 gb nb : Nat) (W W' : World) : Prop where
  size : W.heap.size ≤ W'.heap.size
  same : ∀ k o, W.heap[k]? = some o → (k < n0 ∨ o.isCells = true) → k ≠ gb → k ≠ nb → W'.heap[k]? = some o
theorem KpD.refl (n0 gb nb : Nat) (W : World) : KpD n0 gb nb W W := ⟨Nat.le_refl _, fun _ _ h _ _ _ => h⟩
theorem KpD.trans {n0 gb nb : Nat} {A B C : World} (h : KpD n0 gb nb A B) (k : KpD n0 gb nb B C) : KpD n0 gb nb A C :=
  ⟨Nat.le_trans h.size k.size, fun i o hi hc h1 h2 => k.same i o (h.same i o hi hc h1 h2) hc h1 h2⟩
theorem KpD.alloc {n0 gb nb : Nat} {A B : World} (h : KpD n0 gb nb A B) (o : Obj) : KpD n0 gb nb A (B.alloc o) :=
  h.trans ⟨by simp, fun k o' hk _ _ _ => (Below.heap_alloc B o k (blk_lt hk)).trans hk⟩
/-- A byte that waits, with a place on a disk of L bytes. -/
abbrev PB (L : Nat) := { x : Nat × Int // x.1 < L }
theorem pend_take_succ (q : List (Int × List Int)) (k : Nat) (hk : k < q.length) : pend (q.take (k + 1)) = pend (q.take k) ++ pendOf q[k] := by
  rw [List.take_succ_eq_append_getElem hk, pend_append]
  simp [pend]
theorem pendOf_get (w : Int × List Int) (m : Nat) (hm : m < w.2.length) : (pendOf w).take (m + 1) = (pendOf w).take m ++ [(w.1.toNat + m, w.2[m])] := by
  have hl : m < (pendOf w).length := by rw [pendOf_length]; exact hm
  rw [List.take_succ_eq_append_getElem hl]
  congr 2
  simp [pendOf]
set_option maxHeartbeats 2000000 in
set_option maxRecDepth 100000 in
theorem bytes1_in (F : Fence) (n : Nat) (h96 : F.fn 96) (hro : F.round = none) (hn : 1 ≤ n) (l Bs g gb nb n0 L : Nat) (q : List (Int × List Int)) (vq : Value) (ok : Nat → Prop)
    (hfit : ∀ w ∈ q, 0 ≤ w.1 ∧ w.1 + w.2.length ≤ L) (hL : L ≤ 262144) (hql : q.length ≤ 1000000) (J Jx : List (PB L) → World → Prop)
    (W : World) (hJ : AbidesFrom W.heap.size J)
    (hY : ∀ pre x W1, J pre W1 → pre.length < (pend q).length → YieldAt F (n - 1) Try.prog l #[.int .i64 (x.1.1 : Int), .int .u8 x.1.2] W1 fun e W' =>
      (e = .returned (.bool true) ∧ J (pre ++ [x]) W' ∧ KpD n0 gb nb W1 W') ∨ (e = .returned (.bool false) ∧ Jx (pre ++ [x]) W'))
    (hgb : gb < W.heap.size) (hnb : nb < W.heap.size) (hok : ∀ k, ok k → k < n0 ∧ k ≠ gb ∧ k ≠ nb)
    (hBs : W.cell? ⟨Bs, 0, none⟩ = some (.pointer (some ⟨g, 0, none⟩))) (hg1 : W.cell? ⟨g, 1, none⟩ = some vq) (hq : Kd.N WK 114 W 0 ok vq q) (hokl : ∀ k, ok k → k < W.heap.size) (h0 : J [] W) :
    CallsIn F n Try.prog 96 #[.func (.yield l) #[] #[], .pointer (some ⟨Bs, 0, none⟩)] W fun e W' => (∃ v, e = .returned v) ∧
      ((∃ ys : List (PB L), ys.map (·.1) = pend q ∧ J ys W') ∨ (∃ pre : List (PB L), pre.map (·.1) <+: pend q ∧ Jx pre W')) := by
  obtain ⟨A, c, hv⟩ := Kd.N_slice hq
  subst hv
  have HQ := Aside0.mk hq
  have HJ := Aside0.mk hJ
  have HY := Aside0.mk hY
  have HF := Aside0.mk hfit
  have HO := Aside0.mk hok
  have H0 := Aside0.mk h0
  have HN0 := Aside0.mk hokl
  clear hq hJ hY hfit hok h0 hokl
  refine callsIn_of_wp Try.func96 rfl h96 ?_ hro
  simp only [Try.ntmps96, List.size_toArray, List.length_cons, List.length_nil, Nat.reduceAdd, Nat.reduceSub, Array.replicate_succ, Array.replicate_zero, List.push_toArray, List.append_toArray, List.nil_append, List.cons_append]
  gi_wp2
  gi_loopw [12] (fun v12 wr => ∃ (k : Nat) (pre : List (PB L)), k ≤ q.length ∧ v12 = .int .i64 k ∧ Aside0 (pre.map (·.1) = pend (q.take k) ∧ J pre wr ∧ KpD n0 gb nb W wr))
    (fun v12 _ => q.length - (intOf v12).toNat)
  case atStart => exact ⟨0, [], by omega, rfl, ⟨rfl, H0.out, KpD.refl _ _ _ _⟩⟩
  case round =>
    obtain ⟨k, pre, hk, rfl, HR⟩ := hrel
    by_cases hlt : k < q.length
    · obtain ⟨ad, rfl⟩ := q_ptr HQ.out (by omega)
      have hq2 : Kd.N WK 114 wr 0 ok (.slice (some ad) q.length c) q := Kd.N_step HQ.out (fun k hk hlt => by
        obtain ⟨h1, h2, h3⟩ := HO.out k hk
        obtain ⟨o, ho⟩ : ∃ o, W.heap[k]? = some o := ⟨_, Array.getElem?_eq_getElem hlt⟩
        rw [ho]
        exact HR.out.2.2.same k o ho (.inl h1) h2 h3)
      obtain ⟨A2, c2, g1, g2, hl2, hF2⟩ := q_at hq2 k hlt
      have hfit := HF.out _ (List.getElem_mem hlt)
      obtain ⟨z, hz⟩ := Int.eq_ofNat_of_zero_le hfit.1
      have HS := Aside0.mk (pend_take_succ q k hlt)
      have HP := Aside0.mk (show (pendOf q[k]).length = q[k].2.length from pendOf_length _)
      have HG := Aside0.mk (pendOf_get q[k])
      have HF2 := Aside0.mk hF2
      have HZ := Aside0.mk hz
      have hy : z + q[k].2.length ≤ L := by have := hfit.2; omega
      rw [hz] at g1
      obtain ⟨y, hy2⟩ : ∃ y, y = q[k].2 := ⟨_, rfl⟩
      rw [← hy2] at g2 hl2 hy HF2
      have HYQ := Aside0.mk hy2
      clear hq2 hfit hz hy2 hF2
      obtain ⟨B, hB⟩ : ∃ B, B = wr.heap.size := ⟨_, rfl⟩
      have HBW := Aside0.mk (show W.heap.size ≤ B by rw [hB]; exact HR.out.2.2.size)
      have HB0 := Aside0.mk (show (wr.alloc (.cells #[.int .i64 z, .slice A2 y.length c2] 114)).heap[B]? = some (.cells #[.int .i64 z, .slice A2 y.length c2] 114 (0, 0)) by rw [hB]; exact heap_alloc_new _ _)
      have HR0 := Aside0.mk (show J pre (wr.alloc (.cells #[.int .i64 z, .slice A2 y.length c2] 114)) ∧ KpD n0 gb nb W (wr.alloc (.cells #[.int .i64 z, .slice A2 y.length c2] 114)) from
        ⟨HJ.out _ _ _ none HR.out.2.1 (World.grownBy_alloc _ _ _) (by simp), HR.out.2.2.alloc _⟩)
      gi_wp2
      rw [← hB]
      clear hB
      obtain ⟨wo, hwo⟩ : ∃ wo : World, wo = wr := ⟨_, rfl⟩
      subst hwo
      have HZ2 := Aside0.mk (show z + y.length ≤ 262144 by omega)
      gi_loopw [19] (fun v19 wi => ∃ (m : Nat) (pre : List (PB L)), m ≤ y.length ∧ v19 = .int .i64 m ∧ Aside0 (pre.map (·.1) = pend (q.take k) ++ (pendOf q[k]).take m ∧ J pre wi ∧ KpD n0 gb nb W wi ∧ wi.heap[B]? = some (.cells #[.int .i64 z, .slice A2 y.length c2] 114 (0, 0))))
        (fun v19 _ => y.length - (intOf v19).toNat)
      case atStart => exact ⟨0, pre, by omega, rfl, ⟨by rw [HR.out.1, List.take_zero, List.append_nil], HR0.out.1, HR0.out.2, HB0.out⟩⟩
      case round =>
        clear HR0 HB0
        obtain ⟨m, pre2, hm, rfl, HI⟩ := hrel
        obtain ⟨wi, hwi⟩ : ∃ wi : World, wi = wr := ⟨_, rfl⟩
        subst hwi
        by_cases hlm : m < y.length
        · have hF3 : Kd.F (Kd.int .u8) wi ok A2 y.length y := Kd.F_step HF2.out (fun k hk hlt2 => by
            obtain ⟨h1, h2, h3⟩ := HO.out k hk
            rcases Nat.lt_or_ge k W.heap.size with c1 | c1
            · obtain ⟨o, ho⟩ : ∃ o, W.heap[k]? = some o := ⟨_, Array.getElem?_eq_getElem c1⟩
              rw [HI.out.2.2.1.same k o ho (.inl h1) h2 h3, HR.out.2.2.same k o ho (.inl h1) h2 h3]
            · exact absurd (HN0.out k hk) (by omega))
          obtain ⟨ad2, rfl, hcell⟩ := Kd.at_int (Kd.F_now hF3) (m : Int) (by omega) (by omega)
          have hrd : rd y (m : Int) = y[m] := by simp [rd, List.getD_eq_getElem?_getD, List.getElem?_eq_getElem hlm]
          rw [hrd, show (m : Int).toNat = m from by omega] at hcell
          have hb0 : wi.cell? ⟨B, 0, none⟩ = some (.int .i64 z) := by rw [blk_cell HI.out.2.2.2]; rfl
          have hgo : (pendOf q[k]).take (m + 1) = (pendOf q[k]).take m ++ [(z + m, y[m])] := by
            have h1 := HG.out m (by rw [← HYQ.out]; exact hlm)
            rw [h1, HZ.out, Int.toNat_natCast]
            congr 3
            simp [HYQ.out]
          obtain ⟨c, hc⟩ : ∃ c, c = y[m] := ⟨_, rfl⟩
          rw [← hc] at hcell hgo
          have HGO := Aside0.mk hgo
          obtain ⟨fn, tmps, assign, body, hyl, hR⟩ := HY.out pre2 ⟨(z + m, c), by show z + m < L; omega⟩ wi HI.out.2.1 (by
            have h1 := congrArg List.length HI.out.1
            rw [List.length_map, List.length_append, List.length_take, HP.out, ← HYQ.out] at h1
            have h2 : (pend q).length = (pend (q.take k)).length + (pendOf q[k]).length + (pend (q.drop (k + 1))).length := by
              conv => lhs; rw [← List.take_append_drop (k + 1) q, pend_append, HS.out]
              rw [List.length_append, List.length_append]
            rw [HP.out, ← HYQ.out] at h2
            omega)
          dsimp only at hyl
          rw [Int.natCast_add] at hyl
          clear hF3 hrd hc hgo
          gi_wp2
          refine hR.mono ?_
          rintro e W3 (⟨rfl, hJ3, hk3⟩ | ⟨rfl, hJx3⟩)
          · have HI3 := Aside0.mk (show (pre2 ++ [(⟨(z + m, c), by show z + m < L; omega⟩ : PB L)]).map (fun x : PB L => x.1) = pend (q.take k) ++ (pendOf q[k]).take (m + 1) ∧ J (pre2 ++ [(⟨(z + m, c), by show z + m < L; omega⟩ : PB L)]) W3 ∧ KpD n0 gb nb W W3 ∧ W3.heap[B]? = some (.cells #[.int .i64 z, .slice (some ad2) y.length c2] 114 (0, 0)) from
              ⟨by rw [HGO.out, List.map_append, HI.out.1, List.append_assoc]; rfl, hJ3, HI.out.2.2.1.trans hk3, hk3.same B _ HI.out.2.2.2 (.inr rfl) (by have := HBW.out; omega) (by have := HBW.out; omega)⟩)
            clear hJ3 hk3 HI
            gi_wp2
            go_roundw
            case rel => exact ⟨m + 1, _, by omega, by go_num, HI3⟩
            case measure => simp [intOf]; omega
          · gi_wp2
            refine bodyPost_ret (results_none rfl _ _ _) rfl ?_
            refine ⟨⟨_, rfl⟩, .inr ⟨_, ?_, hJx3⟩⟩
            rw [List.map_append, HI.out.1, List.append_assoc]
            show pend (q.take k) ++ ((pendOf q[k]).take m ++ [(z + m, c)]) <+: pend q
            rw [← HGO.out]
            refine List.IsPrefix.trans (l₂ := pend (q.take (k + 1))) ?_ ?_
            · rw [HS.out]
              exact (List.prefix_append_right_inj _).2 (List.take_prefix _ _)
            · conv => rhs; rw [← List.take_append_drop (k + 1) q, pend_append]
              exact List.prefix_append _ _
        · obtain rfl : m = y.length := by omega
          have HI3 := Aside0.mk (show pre2.map (·.1) = pend (q.take (k + 1)) ∧ J pre2 wi ∧ KpD n0 gb nb W wi from
            ⟨by rw [HI.out.1, HS.out, HYQ.out, ← HP.out, List.take_length], HI.out.2.1, HI.out.2.2.1⟩)
          gi_wp2
          go_roundw
          case rel => exact ⟨k + 1, pre2, by omega, by go_num, HI3⟩
          case measure => simp [intOf]; omega
    · obtain rfl : k = q.length := by omega
      gi_wp2
      go_end0
      refine ⟨⟨_, rfl⟩, .inl ⟨pre, ?_, HR.out.2.1⟩⟩
      have := HR.out.1
      rwa [List.take_length] at this
end Go.Proofs.Ytmbemlpmfklddaa.Own
