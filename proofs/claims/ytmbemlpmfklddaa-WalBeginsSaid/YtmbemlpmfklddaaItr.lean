/- The iterator of a disk's waiting bytes. (*Disk).settle in memory: a range over a function. -/
import Derived.RangeFuncNested
import Derived.RangeFuncBound
import Derived.RangeFuncCalls
import Derived.RangeFuncLeaves
import Derived.RangeFuncWrites
import Derived.WalkKit
import Derived.OwnWalkIn
import Derived.TacticsInMore
import Derived.LoopNIn
import Derived.LoopIn
import Derived.Test.YtmbemlpmfklddaaDk1
namespace Go.Proofs.Ytmbemlpmfklddaa.Own
open Go.RowKit Go.Proofs.YtmbemlpmfklddaaW.PrintWords Go.Proofs.YtmbemlpmfklddaaW.PrintLast Go.Proofs.YtmbemlpmfklddaaW.PrintMore
attribute [local go_sem] Oper.semAt_some
/-- What a round keeps: all blocks that lay below n0, and all cells, but for two blocks. -/
structure KpD (n0 gb nb : Nat) (W W' : World) : Prop where
  size : W.heap.size ≤ W'.heap.size
  same : ∀ k o, W.heap[k]? = some o → (k < n0 ∨ o.isCells = true) → k ≠ gb → k ≠ nb → W'.heap[k]? = some o
theorem KpD.refl (n0 gb nb : Nat) (W : World) : KpD n0 gb nb W W := ⟨Nat.le_refl _, fun _ _ h _ _ _ => h⟩
theorem KpD.trans {n0 gb nb : Nat} {A B C : World} (h : KpD n0 gb nb A B) (k : KpD n0 gb nb B C) : KpD n0 gb nb A C :=
  ⟨Nat.le_trans h.size k.size, fun i o hi hc h1 h2 => k.same i o (h.same i o hi hc h1 h2) hc h1 h2⟩
theorem KpD.alloc {n0 gb nb : Nat} {A B : World} (h : KpD n0 gb nb A B) (o : Obj) : KpD n0 gb nb A (B.alloc o) :=
  h.trans ⟨by simp, fun k o' hk _ _ _ => (Below.heap_alloc B o k (blk_lt hk)).trans hk⟩
/-- A byte that waits, with a place on a disk of L bytes. -/
abbrev PB (L : Nat) := { x : Nat × Int // x.1 < L }
theorem pend_take_succ (q : List (Int × List Int)) (k : Nat) (hk : k < q.length) : pend (q.take (k + 1)) = pend (q.take k) ++ pendOf q[k] := by
  rw [List.take_succ_eq_append_getElem hk, pend_append]
  simp [pend]
theorem pendOf_get (w : Int × List Int) (m : Nat) (hm : m < w.2.length) : (pendOf w).take (m + 1) = (pendOf w).take m ++ [(w.1.toNat + m, w.2[m])] := by
  have hl : m < (pendOf w).length := by rw [pendOf_length]; exact hm
  rw [List.take_succ_eq_append_getElem hl]
  congr 2
  simp [pendOf]
set_option maxHeartbeats 2000000 in
set_option maxRecDepth 100000 in
theorem bytes1_in (F : Fence) (n : Nat) (h96 : F.fn 96) (hro : F.round = none) (hn : 1 ≤ n) (l Bs g gb nb n0 L : Nat) (q : List (Int × List Int)) (vq : Value) (ok : Nat → Prop)
    (hfit : ∀ w ∈ q, 0 ≤ w.1 ∧ w.1 + w.2.length ≤ L) (hL : L ≤ 262144) (hql : q.length ≤ 1000000) (J Jx : List (PB L) → World → Prop)
    (W : World) (hJ : AbidesFrom W.heap.size J)
    (hY : ∀ pre x W1, J pre W1 → pre.length < (pend q).length → YieldAt F (n - 1) Try.prog l #[.int .i64 (x.1.1 : Int), .int .u8 x.1.2] W1 fun e W' =>
      (e = .returned (.bool true) ∧ J (pre ++ [x]) W' ∧ KpD n0 gb nb W1 W') ∨ (e = .returned (.bool false) ∧ Jx (pre ++ [x]) W'))
    (hgb : gb < W.heap.size) (hnb : nb < W.heap.size) (hok : ∀ k, ok k → k < n0 ∧ k ≠ gb ∧ k ≠ nb)
    (hBs : W.cell? ⟨Bs, 0, none⟩ = some (.pointer (some ⟨g, 0, none⟩))) (hg1 : W.cell? ⟨g, 1, none⟩ = some vq) (hq : Kd.N WK 114 W 0 ok vq q) (hokl : ∀ k, ok k → k < W.heap.size) (h0 : J [] W) :
    CallsIn F n Try.prog 96 #[.func (.yield l) #[] #[], .pointer (some ⟨Bs, 0, none⟩)] W fun e W' => (∃ v, e = .returned v) ∧
      ((∃ ys : List (PB L), ys.map (·.1) = pend q ∧ J ys W') ∨ (∃ pre : List (PB L), pre.map (·.1) <+: pend q ∧ Jx pre W')) := by
  obtain ⟨A, c, hv⟩ := Kd.N_slice hq
  subst hv
  have HQ := Aside0.mk hq
  have HJ := Aside0.mk hJ
  have HY := Aside0.mk hY
  have HF := Aside0.mk hfit
  have HO := Aside0.mk hok
  have H0 := Aside0.mk h0
  have HN0 := Aside0.mk hokl
  clear hq hJ hY hfit hok h0 hokl
  refine callsIn_of_wp Try.func96 rfl h96 ?_ hro
  simp only [Try.ntmps96, List.size_toArray, List.length_cons, List.length_nil, Nat.reduceAdd, Nat.reduceSub, Array.replicate_succ, Array.replicate_zero, List.push_toArray, List.append_toArray, List.nil_append, List.cons_append]
  gi_wp2
  gi_loopw [12] (fun v12 wr => ∃ (k : Nat) (pre : List (PB L)), k ≤ q.length ∧ v12 = .int .i64 k ∧ Aside0 (pre.map (·.1) = pend (q.take k) ∧ J pre wr ∧ KpD n0 gb nb W wr))
    (fun v12 _ => q.length - (intOf v12).toNat)
  case atStart => exact ⟨0, [], by omega, rfl, ⟨rfl, H0.out, KpD.refl _ _ _ _⟩⟩
  case round =>
    obtain ⟨k, pre, hk, rfl, HR⟩ := hrel
    by_cases hlt : k < q.length
    · obtain ⟨ad, rfl⟩ := q_ptr HQ.out (by omega)
      have hq2 : Kd.N WK 114 wr 0 ok (.slice (some ad) q.length c) q := Kd.N_step HQ.out (fun k hk hlt => by
        obtain ⟨h1, h2, h3⟩ := HO.out k hk
        obtain ⟨o, ho⟩ : ∃ o, W.heap[k]? = some o := ⟨_, Array.getElem?_eq_getElem hlt⟩
        rw [ho]
        exact HR.out.2.2.same k o ho (.inl h1) h2 h3)
      obtain ⟨A2, c2, g1, g2, hl2, hF2⟩ := q_at hq2 k hlt
      have hfit := HF.out _ (List.getElem_mem hlt)
      obtain ⟨z, hz⟩ := Int.eq_ofNat_of_zero_le hfit.1
      have HS := Aside0.mk (pend_take_succ q k hlt)
      have HP := Aside0.mk (show (pendOf q[k]).length = q[k].2.length from pendOf_length _)
      have HG := Aside0.mk (pendOf_get q[k])
      have HF2 := Aside0.mk hF2
      have HZ := Aside0.mk hz
      have hy : z + q[k].2.length ≤ L := by have := hfit.2; omega
      rw [hz] at g1
      obtain ⟨y, hy2⟩ : ∃ y, y = q[k].2 := ⟨_, rfl⟩
      rw [← hy2] at g2 hl2 hy HF2
      have HYQ := Aside0.mk hy2
      clear hq2 hfit hz hy2 hF2
      obtain ⟨B, hB⟩ : ∃ B, B = wr.heap.size := ⟨_, rfl⟩
      have HBW := Aside0.mk (show W.heap.size ≤ B by rw [hB]; exact HR.out.2.2.size)
      have HB0 := Aside0.mk (show (wr.alloc (.cells #[.int .i64 z, .slice A2 y.length c2] 114)).heap[B]? = some (.cells #[.int .i64 z, .slice A2 y.length c2] 114 (0, 0)) by rw [hB]; exact heap_alloc_new _ _)
      have HR0 := Aside0.mk (show J pre (wr.alloc (.cells #[.int .i64 z, .slice A2 y.length c2] 114)) ∧ KpD n0 gb nb W (wr.alloc (.cells #[.int .i64 z, .slice A2 y.length c2] 114)) from
        ⟨HJ.out _ _ _ none HR.out.2.1 (World.grownBy_alloc _ _ _) (by simp), HR.out.2.2.alloc _⟩)
      gi_wp2
      rw [← hB]
      clear hB
      obtain ⟨wo, hwo⟩ : ∃ wo : World, wo = wr := ⟨_, rfl⟩
      subst hwo
      have HZ2 := Aside0.mk (show z + y.length ≤ 262144 by omega)
      gi_loopw [19] (fun v19 wi => ∃ (m : Nat) (pre : List (PB L)), m ≤ y.length ∧ v19 = .int .i64 m ∧ Aside0 (pre.map (·.1) = pend (q.take k) ++ (pendOf q[k]).take m ∧ J pre wi ∧ KpD n0 gb nb W wi ∧ wi.heap[B]? = some (.cells #[.int .i64 z, .slice A2 y.length c2] 114 (0, 0))))
        (fun v19 _ => y.length - (intOf v19).toNat)
      case atStart => exact ⟨0, pre, by omega, rfl, ⟨by rw [HR.out.1, List.take_zero, List.append_nil], HR0.out.1, HR0.out.2, HB0.out⟩⟩
      case round =>
        clear HR0 HB0
        obtain ⟨m, pre2, hm, rfl, HI⟩ := hrel
        obtain ⟨wi, hwi⟩ : ∃ wi : World, wi = wr := ⟨_, rfl⟩
        subst hwi
        by_cases hlm : m < y.length
        · have hF3 : Kd.F (Kd.int .u8) wi ok A2 y.length y := Kd.F_step HF2.out (fun k hk hlt2 => by
            obtain ⟨h1, h2, h3⟩ := HO.out k hk
            rcases Nat.lt_or_ge k W.heap.size with c1 | c1
            · obtain ⟨o, ho⟩ : ∃ o, W.heap[k]? = some o := ⟨_, Array.getElem?_eq_getElem c1⟩
              rw [HI.out.2.2.1.same k o ho (.inl h1) h2 h3, HR.out.2.2.same k o ho (.inl h1) h2 h3]
            · exact absurd (HN0.out k hk) (by omega))
          obtain ⟨ad2, rfl, hcell⟩ := Kd.at_int (Kd.F_now hF3) (m : Int) (by omega) (by omega)
          have hrd : rd y (m : Int) = y[m] := by simp [rd, List.getD_eq_getElem?_getD, List.getElem?_eq_getElem hlm]
          rw [hrd, show (m : Int).toNat = m from by omega] at hcell
          have hb0 : wi.cell? ⟨B, 0, none⟩ = some (.int .i64 z) := by rw [blk_cell HI.out.2.2.2]; rfl
          have hgo : (pendOf q[k]).take (m + 1) = (pendOf q[k]).take m ++ [(z + m, y[m])] := by
            have h1 := HG.out m (by rw [← HYQ.out]; exact hlm)
            rw [h1, HZ.out, Int.toNat_natCast]
            congr 3
            simp [HYQ.out]
          obtain ⟨c, hc⟩ : ∃ c, c = y[m] := ⟨_, rfl⟩
          rw [← hc] at hcell hgo
          have HGO := Aside0.mk hgo
          obtain ⟨fn, tmps, assign, body, hyl, hR⟩ := HY.out pre2 ⟨(z + m, c), by show z + m < L; omega⟩ wi HI.out.2.1 (by
            have h1 := congrArg List.length HI.out.1
            rw [List.length_map, List.length_append, List.length_take, HP.out, ← HYQ.out] at h1
            have h2 : (pend q).length = (pend (q.take k)).length + (pendOf q[k]).length + (pend (q.drop (k + 1))).length := by
              conv => lhs; rw [← List.take_append_drop (k + 1) q, pend_append, HS.out]
              rw [List.length_append, List.length_append]
            rw [HP.out, ← HYQ.out] at h2
            omega)
          dsimp only at hyl
          rw [Int.natCast_add] at hyl
          clear hF3 hrd hc hgo
          gi_wp2
          refine hR.mono ?_
          rintro e W3 (⟨rfl, hJ3, hk3⟩ | ⟨rfl, hJx3⟩)
          · have HI3 := Aside0.mk (show (pre2 ++ [(⟨(z + m, c), by show z + m < L; omega⟩ : PB L)]).map (fun x : PB L => x.1) = pend (q.take k) ++ (pendOf q[k]).take (m + 1) ∧ J (pre2 ++ [(⟨(z + m, c), by show z + m < L; omega⟩ : PB L)]) W3 ∧ KpD n0 gb nb W W3 ∧ W3.heap[B]? = some (.cells #[.int .i64 z, .slice (some ad2) y.length c2] 114 (0, 0)) from
              ⟨by rw [HGO.out, List.map_append, HI.out.1, List.append_assoc]; rfl, hJ3, HI.out.2.2.1.trans hk3, hk3.same B _ HI.out.2.2.2 (.inr rfl) (by have := HBW.out; omega) (by have := HBW.out; omega)⟩)
            clear hJ3 hk3 HI
            gi_wp2
            go_roundw
            case rel => exact ⟨m + 1, _, by omega, by go_num, HI3⟩
            case measure => simp [intOf]; omega
          · gi_wp2
            refine bodyPost_ret (results_none rfl _ _ _) rfl ?_
            refine ⟨⟨_, rfl⟩, .inr ⟨_, ?_, hJx3⟩⟩
            rw [List.map_append, HI.out.1, List.append_assoc]
            show pend (q.take k) ++ ((pendOf q[k]).take m ++ [(z + m, c)]) <+: pend q
            rw [← HGO.out]
            refine List.IsPrefix.trans (l₂ := pend (q.take (k + 1))) ?_ ?_
            · rw [HS.out]
              exact (List.prefix_append_right_inj _).2 (List.take_prefix _ _)
            · conv => rhs; rw [← List.take_append_drop (k + 1) q, pend_append]
              exact List.prefix_append _ _
        · obtain rfl : m = y.length := by omega
          have HI3 := Aside0.mk (show pre2.map (·.1) = pend (q.take (k + 1)) ∧ J pre2 wi ∧ KpD n0 gb nb W wi from
            ⟨by rw [HI.out.1, HS.out, HYQ.out, ← HP.out, List.take_length], HI.out.2.1, HI.out.2.2.1⟩)
          gi_wp2
          go_roundw
          case rel => exact ⟨k + 1, pre2, by omega, by go_num, HI3⟩
          case measure => simp [intOf]; omega
    · obtain rfl : k = q.length := by omega
      gi_wp2
      go_end0
      refine ⟨⟨_, rfl⟩, .inl ⟨pre, ?_, HR.out.2.1⟩⟩
      have := HR.out.1
      rwa [List.take_length] at this
end Go.Proofs.Ytmbemlpmfklddaa.Own
namespace Go.Proofs.Ytmbemlpmfklddaa.Own
open Go.RowKit Go.Proofs.YtmbemlpmfklddaaW.PrintWords Go.Proofs.YtmbemlpmfklddaaW.PrintLast Go.Proofs.YtmbemlpmfklddaaW.PrintMore
attribute [local go_sem] Oper.semAt_some
set_option maxHeartbeats 400000 in
set_option maxRecDepth 100000 in
theorem bytes_in (F : Fence) (n : Nat) (h91 : F.fn 91) (hro : F.round = none) (p : Option Addr) (w : World) :
    CallsIn F n Try.prog 91 #[.pointer p] w fun e w' => e = .returned (.func (.func 96) #[] #[.pointer (some ⟨w.heap.size, 0, none⟩)]) ∧ w' = w.alloc (.cells #[.pointer p] 32) := by
  refine callsIn_of_wp Try.func91 rfl h91 ?_ hro
  simp only [Try.ntmps91, List.size_toArray, List.length_cons, List.length_nil, Nat.reduceAdd, Nat.reduceSub, Array.replicate_succ, Array.replicate_zero, List.push_toArray, List.append_toArray, List.nil_append, List.cons_append]
  gi_wp2
  go_ret
  exact ⟨rfl, rfl⟩
/-- Between two rounds: so many bytes have lasted. -/
structure SetI (S : Nat → Prop) (g gb cap : Nat) (vq : Value) (d : Dm) (w : World) (last : Int) (pre : List (PB d.b.length)) (W : World) : Prop where
  le : (pre.length : Int) ≤ max last 0
  c0 : W.heap[w.heap.size]? = some (.cells #[.pointer (some ⟨g, 0, none⟩)] 32 (0, 0))
  c1 : W.heap[w.heap.size + 1]? = some (.cells #[.int .i64 last] 3 (0, 0))
  c2 : W.heap[w.heap.size + 1 + 1]? = some (.cells #[.int .i64 pre.length] 3 (0, 0))
  disk : DiskAt W S g gb cap vq { d with b := putAll d.b (pre.map (·.1)) }
  chg : Chg S w W
def SetX (S : Nat → Prop) (g gb cap : Nat) (vq : Value) (d : Dm) (w : World) (last : Int) (c : Code) (pre : List (PB d.b.length)) (W : World) : Prop :=
  ∃ pre0 x, pre = pre0 ++ [x] ∧ c = .exit 0 ∧ last ≤ pre0.length ∧ SetI S g gb cap vq d w last pre0 W
section
variable {S : Nat → Prop} {g gb cap : Nat} {vq : Value} {d : Dm} {w : World} {last : Int}
theorem SetI.own (hS : ∀ k, S k → k < w.heap.size) : OwnFrom (w.heap.size + 1 + 1 + 1 + 1) (SetI S g gb cap vq d w last) := by
  intro pre W W' row h hg hr
  have hb : ∀ k, k < W.heap.size → k < w.heap.size + 1 + 1 + 1 + 1 → W'.heap[k]? = W.heap[k]? := fun k hk hk2 => hg.block k hk (fun e => by
    have := (hr k e.symm).1
    omega)
  have hc : Chg (fun k => some k = row) W W' := ⟨hg.os, hg.tape, hg.output, hg.size, fun k hk hn => hg.block k hk hn⟩
  refine ⟨h.le, ?_, ?_, ?_, h.disk.chg hc (fun k hk e => by have := (hr k e.symm).1; have := hS k hk; omega), h.chg.then_ hc (fun k e => .inr (by have := (hr k e.symm).1; omega))⟩
  · rw [hb _ (blk_lt h.c0) (by omega)]; exact h.c0
  · rw [hb _ (blk_lt h.c1) (by omega)]; exact h.c1
  · rw [hb _ (blk_lt h.c2) (by omega)]; exact h.c2
theorem SetX.own (hS : ∀ k, S k → k < w.heap.size) (c : Code) : OwnFrom (w.heap.size + 1 + 1 + 1 + 1) (SetX S g gb cap vq d w last c) := by
  rintro pre W W' row ⟨pre0, x, h1, h2, h3, h4⟩ hg hr
  exact ⟨pre0, x, h1, h2, h3, SetI.own hS pre0 W W' row h4 hg hr⟩
/-- One byte more has lasted. -/
theorem SetI.step {pre : List (PB d.b.length)} {W : World} (h : SetI S g gb cap vq d w last pre W) (hS : ∀ k, S k → k < w.heap.size) (x : PB d.b.length) (hl : (pre.length : Int) < last) :
    SetI S g gb cap vq d w last (pre ++ [x]) ((W.setCell ⟨gb, x.1.1, none⟩ (.int .u8 x.1.2)).setCell ⟨w.heap.size + 1 + 1, 0, none⟩ (.int .i64 (pre.length + 1))) := by
  have hg := hS g h.disk.inG
  have hgb := hS gb h.disk.inB
  have hlen : (putAll d.b (pre.map (·.1))).length = d.b.length := putAll_length _ _
  have hput : putAll d.b ((pre ++ [x]).map (·.1)) = (putAll d.b (pre.map (·.1))).set x.1.1 x.1.2 := by rw [List.map_append, putAll_append]; rfl
  have hB : OwnB (W.setCell ⟨gb, x.1.1, none⟩ (.int .u8 x.1.2)) 0 (.slice (some ⟨gb, 0, none⟩) (putAll d.b (pre.map (·.1))).length cap) ((putAll d.b (pre.map (·.1))).set x.1.1 x.1.2) := by
    have h1 := own_put h.disk.bytes (x.1.1 : Int) x.1.2
    rw [show ((x.1.1 : Nat) : Int).toNat = x.1.1 from by omega] at h1
    unfold OwnB
    rw [List.length_set] at h1 ⊢
    exact h1
  refine ⟨by rw [List.length_append, List.length_singleton]; omega, ?_, ?_, ?_, ⟨?_, ?_, ?_, ?_, h.disk.inG, h.disk.inB, h.disk.ne, ?_⟩, ?_⟩
  · exact blk_far (blk_far h.c0 (by exact fun e => by simp at e; omega) _) (by exact fun e => by simp at e; omega) _
  · exact blk_far (blk_far h.c1 (by exact fun e => by simp at e; omega) _) (by exact fun e => by simp at e) _
  · rw [List.length_append, List.length_singleton]
    exact blk_put (blk_far h.c2 (by exact fun e => by simp at e; omega) _) 0 _ rfl
  · show _ = some (Obj.cells #[.slice (some ⟨gb, 0, none⟩) (putAll d.b ((pre ++ [x]).map (·.1))).length cap, vq, .int .i64 d.fl, .int .i64 d.wr] 110 (0, 0))
    rw [hput, List.length_set]
    exact blk_far (blk_far h.disk.cells (by exact h.disk.ne) _) (by exact fun e => by simp at e; omega) _
  · show OwnB _ 0 (.slice (some ⟨gb, 0, none⟩) (putAll d.b ((pre ++ [x]).map (·.1))).length cap) (putAll d.b ((pre ++ [x]).map (·.1)))
    rw [hput, List.length_set]
    exact own_move hB (fun k hk => by
      simp [Value.ownBlock] at hk
      subst hk
      exact Below.heap_setCell _ _ _ _ (by exact fun e => by simp at e; omega))
  · exact Kd.N_far (Kd.N_far h.disk.queue (p := ⟨gb, x.1.1, none⟩) (fun k hk => hk.2.2) _) (p := ⟨w.heap.size + 1 + 1, 0, none⟩) (fun k hk e => by have := hS k hk.1; simp at e; omega) _
  · have ho := h.disk.ok
    have hl2 : (putAll d.b ((pre ++ [x]).map (·.1))).length = d.b.length := putAll_length _ _
    refine ⟨?_, ?_, ?_⟩
    · show 64 ≤ (putAll d.b ((pre ++ [x]).map (·.1))).length
      rw [hl2, ← hlen]; exact ho.lo
    · show (putAll d.b ((pre ++ [x]).map (·.1))).length ≤ 262144
      rw [hl2, ← hlen]; exact ho.hi
    · intro v hv
      show 0 ≤ v.1 ∧ v.1 + v.2.length ≤ (putAll d.b ((pre ++ [x]).map (·.1))).length
      rw [hl2, ← hlen]; exact ho.fit v hv
  · intro k hk
    have := h.disk.lt k hk
    simpa [World.setCell] using this
  · exact (h.chg.setCell (.inl h.disk.inB) _).setCell (.inr (by show w.heap.size ≤ w.heap.size + 1 + 1; omega)) _
end
theorem enters96 : ∀ (args : Array Value) (w : World), (callFunc 96 args).run Try.prog w = .ok (.enter 96 args) w := by
  intro args w
  have h1 : Try.f96.name ≠ "runtime.NumGoroutine" := by
    have : (Try.f96.name == "runtime.NumGoroutine") = false := by kernel_rfl
    simpa using this
  have hb : Try.f96.body.isSome = true := by kernel_rfl
  obtain ⟨c, hc⟩ := Option.isSome_iff_exists.1 hb
  simp [callFunc, Try.func96, h1, hc, mark]
theorem SetI.start {S : Nat → Prop} {g gb cap : Nat} {vq : Value} {d : Dm} {w : World} (last : Int) (h : DiskAt w S g gb cap vq d) :
    SetI S g gb cap vq d w last [] ((((w.alloc (.cells #[.pointer (some ⟨g, 0, none⟩)] 32)).alloc (.cells #[.int .i64 last] 3)).alloc (.cells #[.int .i64 0] 3)).alloc (.cells #[.pointer (some ⟨g, 0, none⟩)] 32)) := by
  have z1 : (w.alloc (.cells #[.pointer (some ⟨g, 0, none⟩)] 32)).heap.size = w.heap.size + 1 := by simp
  have z2 : ((w.alloc (.cells #[.pointer (some ⟨g, 0, none⟩)] 32)).alloc (.cells #[.int .i64 last] 3)).heap.size = w.heap.size + 1 + 1 := by simp
  have b1 := below_alloc (Below.refl _ w) (.cells #[.pointer (some ⟨g, 0, none⟩)] 32)
  have b2 := below_alloc b1 (.cells #[.int .i64 last] 3)
  have b3 := below_alloc b2 (.cells #[.int .i64 0] 3)
  have b4 := below_alloc b3 (.cells #[.pointer (some ⟨g, 0, none⟩)] 32)
  refine ⟨by simp; omega, ?_, ?_, ?_, h.below b4, Chg.of_below _ b4⟩
  · rw [Below.heap_alloc _ _ _ (by simp; omega), Below.heap_alloc _ _ _ (by simp; omega), Below.heap_alloc _ _ _ (by simp)]
    exact heap_alloc_new _ _
  · rw [Below.heap_alloc _ _ _ (by simp), Below.heap_alloc _ _ _ (by simp), ← z1]
    exact heap_alloc_new _ _
  · rw [Below.heap_alloc _ _ _ (by simp), ← z2]
    exact heap_alloc_new _ _
theorem kpD_put {n0 gb nb l : Nat} (W : World) (o o' : Obj) (hl : n0 ≤ l) (h : W.heap[l]? = some o) (hc : o.isCells = false) : KpD n0 gb nb W (W.putObj l o') :=
  ⟨by simp, fun k o2 hk h1 _ _ => by
    have hne : k ≠ l := by
      rintro rfl
      rw [h] at hk
      injection hk with hk
      subst hk
      rcases h1 with h1 | h1
      · omega
      · rw [hc] at h1; cases h1
    rw [World.putObj_heap_other hne]
    exact hk⟩
theorem kpD_step {n0 gb nb a : Nat} {u v : Value} (W : World) : KpD n0 gb nb W ((W.setCell ⟨gb, a, none⟩ u).setCell ⟨nb, 0, none⟩ v) :=
  ⟨by simp [World.setCell], fun k o hk _ h1 h2 => by
    rw [Below.heap_setCell _ _ _ _ (by exact h2), Below.heap_setCell _ _ _ _ (by exact h1)]
    exact hk⟩
theorem SetI.finish {S : Nat → Prop} {g gb cap : Nat} {vq : Value} {d : Dm} {w : World} {last : Int} {pre : List (PB d.b.length)} {W : World} (h : SetI S g gb cap vq d w last pre W) (hS : ∀ k, S k → k < w.heap.size)
    (hp : pre.map (·.1) = (pend d.q).take last.toNat) {D : Nat} (hD : w.heap.size ≤ D) (o : Obj) :
    DiskAt ((W.setCell ⟨g, 1, none⟩ (.slice none 0 0)).putObj D o) S g gb cap (.slice none 0 0) (d.settle last) ∧ Chg S w ((W.setCell ⟨g, 1, none⟩ (.slice none 0 0)).putObj D o) := by
  have hg := hS g h.disk.inG
  have hgb := hS gb h.disk.inB
  have hb : putAll d.b (pre.map (·.1)) = (d.settle last).b := by rw [hp]; rfl
  have hc : Chg (fun k => k = D) (W.setCell ⟨g, 1, none⟩ (.slice none 0 0)) ((W.setCell ⟨g, 1, none⟩ (.slice none 0 0)).putObj D o) :=
    ⟨rfl, rfl, rfl, by simp, fun k _ hn => World.putObj_heap_other hn⟩
  have hd : DiskAt (W.setCell ⟨g, 1, none⟩ (.slice none 0 0)) S g gb cap (.slice none 0 0) (d.settle last) := by
    refine ⟨?_, ?_, Kd.N_nil _ _ _ _ _, Dm.ok_settle ⟨?_, ?_, ?_⟩ last, h.disk.inG, h.disk.inB, h.disk.ne, ?_⟩
    · have := h.disk.cells
      rw [← hb]
      exact blk_put this 1 _ rfl
    · rw [← hb]
      refine own_move h.disk.bytes (fun k hk => ?_)
      simp [Value.ownBlock] at hk
      subst hk
      exact Below.heap_setCell _ _ _ _ (by exact fun e => h.disk.ne e.symm)
    · have := h.disk.ok.lo
      rwa [show (putAll d.b (pre.map (·.1))).length = d.b.length from putAll_length _ _] at this
    · have := h.disk.ok.hi
      rwa [show (putAll d.b (pre.map (·.1))).length = d.b.length from putAll_length _ _] at this
    · intro v hv
      have := h.disk.ok.fit v hv
      rwa [show (putAll d.b (pre.map (·.1))).length = d.b.length from putAll_length _ _] at this
    · intro k hk
      have := h.disk.lt k hk
      simpa [World.setCell] using this
  exact ⟨hd.chg hc (fun k hk e => by have := hS k hk; omega), (h.chg.setCell (.inl h.disk.inG) _).then_ hc (fun k e => .inr (by omega))⟩
set_option maxHeartbeats 2000000 in
set_option maxRecDepth 100000 in
theorem settle_at {S : Nat → Prop} {g gb cap : Nat} {vq : Value} {d : Dm} {w : World} (h : DiskAt w S g gb cap vq d) (hq : d.q.length ≤ 1000000) (last : Int) :
    Calls Try.prog 63 #[.pointer (some ⟨g, 0, none⟩), .int .i64 last] w fun e w' => e = .returned (.tuple #[]) ∧ DiskAt w' S g gb cap (.slice none 0 0) (d.settle last) ∧ Chg S w w' := by
  have H := Aside0.mk h
  have HI := Aside0.mk (SetI.start last h)
  have hS := h.lt
  have HS := Aside0.mk hS
  have hgb := hS gb h.inB
  have hgg := hS g h.inG
  have hdl := h.ok.hi
  have HF := Aside0.mk h.ok.fit
  have HPL := Aside0.mk (show (pend d.q).length ≤ 1000000 * 262144 by
    rw [pend_length]
    exact Nat.le_trans (sum_le d.q 262144 (fun v hv => by have := HF.out v hv; omega)) (Nat.mul_le_mul_right _ hq))
  have b4 := below_alloc (below_alloc (below_alloc (below_alloc (Below.refl _ w) (.cells #[.pointer (some ⟨g, 0, none⟩)] 32)) (.cells #[.int .i64 last] 3)) (.cells #[.int .i64 0] 3)) (.cells #[.pointer (some ⟨g, 0, none⟩)] 32)
  have H4 := Aside0.mk (h.below b4)
  clear h hS b4
  refine (callsIn_wide (n := 9)).1 ?_
  refine callsIn_of_wp_marks Try.func63 rfl trivial ?_ rfl
  simp only [Try.ntmps63, List.size_toArray, List.length_cons, List.length_nil, Nat.reduceAdd, Nat.reduceSub, Array.replicate_succ, Array.replicate_zero, List.push_toArray, List.append_toArray, List.nil_append, List.cons_append]
  gi_wp2_with (refine ⟨trivial, ?_⟩; gi_at_call 91; refine (bytes_in Fence.wide _ trivial rfl _ _).mono ?_; rintro e w' ⟨rfl, rfl⟩)
  obtain ⟨wl, hwl⟩ : ∃ wl, wl = ((((w.alloc (.cells #[.pointer (some ⟨g, 0, none⟩)] 32)).alloc (.cells #[.int .i64 last] 3)).alloc (.cells #[.int .i64 0] 3)).alloc (.cells #[.pointer (some ⟨g, 0, none⟩)] 32)) := ⟨_, rfl⟩
  have hbox : wl.cell? ⟨w.heap.size + 1 + 1 + 1, 0, none⟩ = some (.pointer (some ⟨g, 0, none⟩)) := by
    have z3 : (((w.alloc (.cells #[.pointer (some ⟨g, 0, none⟩)] 32)).alloc (.cells #[.int .i64 last] 3)).alloc (.cells #[.int .i64 0] 3)).heap.size = w.heap.size + 1 + 1 + 1 := by simp
    have hb : wl.heap[w.heap.size + 1 + 1 + 1]? = some (.cells #[.pointer (some ⟨g, 0, none⟩)] 32 (0, 0)) := by rw [hwl, ← z3]; exact heap_alloc_new _ _
    rw [blk_cell hb]; rfl
  have hsz : wl.heap.size = w.heap.size + 1 + 1 + 1 + 1 := by rw [hwl]; simp
  rw [← hwl] at HI H4 ⊢
  clear hwl
  refine wpIn_rangeFunc_ownG rfl (by omega) (gf := 96) (lb := #[.pointer (some ⟨w.heap.size + 1 + 1 + 1, 0, none⟩)]) rfl trivial enters96
    (encs := fun x : PB d.b.length => #[.int .i64 (x.1.1 : Int), .int .u8 x.1.2]) (Kp := KpD wl.heap.size gb (w.heap.size + 1 + 1)) (S := fun xs => xs.map (·.1) = pend d.q) (Sp := fun xs => xs.map (·.1) <+: pend d.q) (N := (pend d.q).length) (w0 := wl)
    ?seq (fun h k => h.trans k) (fun W l o o' hl h hc _ => kpD_put W o o' hl h hc) (Below.refl _ _) (fun _ => rfl)
    (SetI S g gb cap vq d w last) (SetX S g gb cap vq d w last) (by rw [hsz]; exact SetI.own HS.out) (fun c => by rw [hsz]; exact SetX.own HS.out c) HI.out
    (fun x => { tmps := #[.pointer (some ⟨g, 0, none⟩), .int .i64 last, .pointer (some ⟨w.heap.size, 0, none⟩), .pointer (some ⟨w.heap.size + 1, 0, none⟩), .pointer (some ⟨w.heap.size + 1 + 1, 0, none⟩), .int .i64 (x.1.1 : Int), .int .u8 x.1.2, .pointer (some ⟨g, 0, none⟩), .func (.func 96) #[] #[.pointer (some ⟨w.heap.size + 1 + 1 + 1, 0, none⟩)], .int .i64 (x.1.1 : Int), .int .u8 x.1.2, undef, undef, undef, undef, undef, undef, undef, undef, undef, undef, undef, undef, undef, undef, undef], defers := [] }) ?assign ?body ?done ?stop
  case seq =>
    intro l J Jx W hb hJ hJx hY h0
    have hgl : g < wl.heap.size := by omega
    refine bytes1_in Fence.wide _ trivial rfl (by omega) l (w.heap.size + 1 + 1 + 1) g gb (w.heap.size + 1 + 1) wl.heap.size d.b.length d.q vq (fun k => S k ∧ k ≠ g ∧ k ≠ gb) HF.out hdl hq J Jx W hJ hY ?_ ?_ ?_ ?_ ?_ ?_ ?_ h0
    · have := hb.size; omega
    · have := hb.size; omega
    · intro k hk
      have := HS.out k hk.1
      exact ⟨by omega, hk.2.2, by omega⟩
    · rw [hb.cell (p := ⟨w.heap.size + 1 + 1 + 1, 0, none⟩) (by show w.heap.size + 1 + 1 + 1 < wl.heap.size; omega)]; exact hbox
    · rw [hb.cell (p := ⟨g, 1, none⟩) hgl]; exact H4.out.at_.2.1
    · exact Kd.N_below H4.out.queue hb
    · intro k hk
      have := HS.out k hk.1
      have := hb.size
      omega
  case assign =>
    intro l x W K hK
    gi_wp2
    exact hK
  case body =>
    rintro l pre x W hi hlen
    have HI2 := Aside0.mk hi
    have p0 : W.cell? ⟨w.heap.size, 0, none⟩ = some (.pointer (some ⟨g, 0, none⟩)) := by rw [blk_cell hi.c0]; rfl
    have p1 : W.cell? ⟨w.heap.size + 1, 0, none⟩ = some (.int .i64 last) := by rw [blk_cell hi.c1]; rfl
    have p2 : W.cell? ⟨w.heap.size + 1 + 1, 0, none⟩ = some (.int .i64 pre.length) := by rw [blk_cell hi.c2]; rfl
    have p3 : W.frozen? ⟨w.heap.size + 1 + 1, 0, none⟩ = false := blk_frozen hi.c2 0
    obtain ⟨q0, _, _, _⟩ := hi.disk.at_
    have hlen2 : (putAll d.b (pre.map (·.1))).length = d.b.length := putAll_length _ _
    have q0' : W.cell? ⟨g, 0, none⟩ = some (.slice (some ⟨gb, 0, none⟩) d.b.length cap) := by rw [q0]; show some (Value.slice _ (putAll d.b (pre.map (·.1))).length _) = _; rw [hlen2]
    have hx := x.2
    obtain ⟨s0, s1⟩ := own_at hi.disk.bytes (x.1.1 : Int) (by omega) (by show (x.1.1 : Int) < ((putAll d.b (pre.map (·.1))).length : Int); rw [hlen2]; omega)
    rw [show ((x.1.1 : Nat) : Int).toNat = x.1.1 from by omega] at s0 s1
    have hnb : w.heap.size + 1 + 1 ≠ gb := by omega
    clear q0 hi hlen2
    by_cases hc : last ≤ (pre.length : Int)
    · gi_wp2
      exact ⟨KeepsFrom.refl _ _, pre, x, rfl, rfl, hc, HI2.out⟩
    · have hpl : (pre.length : Int) < 9223372036854775807 := by have := HPL.out; omega
      gi_wp2
      exact ⟨((KeepsOthers.setCell _ _ _).trans (KeepsOthers.setCell _ _ _)).from _, kpD_step W, SetI.step HI2.out HS.out x (by omega)⟩
  case done =>
    rintro D ys W hD hys hi hK
    have HI2 := Aside0.mk hi
    have HK := Aside0.mk hK
    have p0 : W.cell? ⟨w.heap.size, 0, none⟩ = some (.pointer (some ⟨g, 0, none⟩)) := by rw [blk_cell hi.c0]; rfl
    obtain ⟨_, q1, _, _⟩ := hi.disk.at_
    have q2 := hi.disk.free 1
    have HY := Aside0.mk hys
    clear hi hK hys
    gi_wp2
    have hK2 : (W.setCell ⟨g, 1, none⟩ (.slice none 0 0)).heap[D]? = some (.deferred (some [])) := by
      rw [Below.heap_setCell _ _ _ _ (by show D ≠ g; omega)]
      exact HK.out
    have hp : ys.map (·.1) = (pend d.q).take last.toNat := by
      have h1 := congrArg List.length HY.out
      rw [List.length_map] at h1
      have h2 := HI2.out.le
      rw [HY.out, List.take_of_length_le (by omega)]
    obtain ⟨f1, f2⟩ := HI2.out.finish HS.out hp (show w.heap.size ≤ D by omega) (.deferred none)
    refine ⟨by simp, .inl ⟨_, _, rfl, run_takeDeferred hK2, ?_⟩⟩
    exact ⟨_, results_none rfl _ _ _, rfl, f1, f2⟩
  case stop =>
    rintro D c pre W hD hp ⟨pre0, x, hpx, rfl, hl, hi⟩ hK
    have HI2 := Aside0.mk hi
    have HK := Aside0.mk hK
    have p0 : W.cell? ⟨w.heap.size, 0, none⟩ = some (.pointer (some ⟨g, 0, none⟩)) := by rw [blk_cell hi.c0]; rfl
    obtain ⟨_, q1, _, _⟩ := hi.disk.at_
    have q2 := hi.disk.free 1
    have HY := Aside0.mk hp
    have HX := Aside0.mk hpx
    clear hi hK hp hpx
    gi_wp2
    have hK2 : (W.setCell ⟨g, 1, none⟩ (.slice none 0 0)).heap[D]? = some (.deferred (some [])) := by
      rw [Below.heap_setCell _ _ _ _ (by show D ≠ g; omega)]
      exact HK.out
    have hp : pre0.map (·.1) = (pend d.q).take last.toNat := by
      have h2 := HI2.out.le
      have h1 := HY.out
      rw [HX.out, List.map_append] at h1
      have h3 := List.IsPrefix.trans (List.prefix_append _ _) h1
      have h4 := List.prefix_iff_eq_take.1 h3
      rcases Nat.eq_zero_or_pos pre0.length with h0 | h0
      · have : pre0 = [] := List.eq_nil_of_length_eq_zero h0
        subst this
        rw [show last.toNat = 0 by simp at hl; omega]
        rfl
      · rw [h4, List.length_map]
        congr 1
        omega
    obtain ⟨f1, f2⟩ := HI2.out.finish HS.out hp (show w.heap.size ≤ D by omega) (.deferred none)
    refine ⟨by simp, .inl ⟨_, _, rfl, run_takeDeferred hK2, ?_⟩⟩
    exact ⟨_, results_none rfl _ _ _, rfl, f1, f2⟩
end Go.Proofs.Ytmbemlpmfklddaa.Own
