/- The disk of the program, in memory: New, Waits, slices.Clone. (*Disk).Write in memory; what it and Read answer where they do nothing. -/
import Derived.Test.YtmbemlpmfklddaaDsk
import Derived.Deep.DeepMust
import Derived.Lib.SliceRun
import Derived.Deep.RegionLaw
namespace Go.Proofs.Ytmbemlpmfklddaa.Own
open Go.RowKit Go.Proofs.YtmbemlpmfklddaaW.PrintWords Go.Proofs.YtmbemlpmfklddaaW.PrintLast Go.Proofs.YtmbemlpmfklddaaW.PrintMore
set_option maxHeartbeats 400000 in
set_option maxRecDepth 100000 in
theorem Clone_calls (A : Option Addr) (c : Nat) (l : List Int) (w : World) (h : (Kd.int .u8).C w A l.length l) (hl : l.length ≤ 140737488355328) :
    Calls Try.prog 61 #[.slice A l.length c] w fun e w' => ∃ v, e = .returned v ∧ OwnB w' w.heap.size v l ∧ Below w.heap.size w w' := by
  have H := Aside0.mk h
  have HB := Aside0.mk (Below.refl w.heap.size w)
  rcases A with _ | a
  · have h0 : l = [] := by
      rcases l with _ | ⟨x, l⟩
      · rfl
      · obtain ⟨ad, he, _⟩ := h.2.2 (by simp)
        cases he
    subst h0
    clear h H HB
    have hnil := fun (W : World) (a : Option Addr) (n c : Nat) => Lib.run_eql_slice_nil (P := Try.prog) W 22 5 a n c 0 0 Try.underlying22
    go_enter Try.func61, Try.ntmps61
    go_wp2_with fail
    go_ret
    exact ⟨_, rfl, own_nil _ _ _ _, Below.refl _ _⟩
  · clear h
    have hnil := fun (W : World) (a : Option Addr) (n c : Nat) => Lib.run_eql_slice_nil (P := Try.prog) W 22 5 a n c 0 0 Try.underlying22
    go_enter Try.func61, Try.ntmps61
    go_wp2_with (at_builtin; go_must (refine app_bytes w.heap.size rfl (.tmp 5) (.tmp 6) rfl _ [] l _ l.length c rfl rfl rfl (own_empty _ _ (Nat.le_refl _)) (Kd.C_below H.out (below_alloc (Below.refl _ _) _)) (below_alloc HB.out _) (below_alloc HB.out _).size (by simp; omega) ?_); intro v1 w1 O1 B1' G1; clear G1 HB; have HO := Aside0.mk O1; have HB := Aside0.mk B1'; clear O1 B1')
    go_ret
    exact ⟨v1, rfl, HO.out, HB.out⟩
set_option maxHeartbeats 400000 in
set_option maxRecDepth 100000 in
theorem New_yes (n : Nat) (w : World) (h1 : 64 ≤ n) (h2 : n ≤ 262144) :
    Calls Try.prog 20 #[.int .i64 n] w fun e w' => ∃ g S, e = .returned (.tuple #[.pointer (some ⟨g, 0, none⟩), .int .i64 0]) ∧ IsDisk w' S g (Dm.new n) ∧ (∀ k, S k → w.heap.size ≤ k) ∧ Below w.heap.size w w' := by
  have hmk := print_make (P := Try.prog) 22 5 .u8 1 Try.underlying22 info5 (by omega) n (by omega)
  go_enter Try.func20, Try.ntmps20
  go_wp2_with fail
  go_ret2
  have hb1 := below_alloc (Below.refl w.heap.size w) (.cells (madeCells #[Value.int IntKind.u8 0] n) 5)
  have hz : (w.alloc (Obj.cells (madeCells #[Value.int IntKind.u8 0] n) 5)).heap.size = w.heap.size + 1 := by simp
  refine ⟨w.heap.size + 1, fun k => k = w.heap.size ∨ k = w.heap.size + 1, rfl, ⟨w.heap.size, n, .slice none 0 0, ?_⟩, fun k hk => by omega, below_alloc hb1 _⟩
  have hO : OwnB (w.alloc (Obj.cells (madeCells #[Value.int IntKind.u8 0] n) 5)) 0 (.slice (some ⟨w.heap.size, 0, none⟩) n n) (List.replicate n 0) := by
    have := own_made w 0 5 .u8 n (by omega) (by omega)
    unfold OwnB
    rw [List.length_replicate]
    exact this
  have hlen : (Dm.new n).b.length = n := by simp [Dm.new]
  refine ⟨?_, ?_, Kd.N_nil _ _ _ _ _, Dm.ok_new h1 h2, .inr rfl, .inl rfl, by omega, fun k hk => by simp; omega⟩
  · rw [hlen, ← hz]
    exact heap_alloc_new _ _
  · rw [hlen]
    exact hO.below (below_alloc (Below.refl _ _) _)
theorem New_no (n : Int) (w : World) (h : n < 64 ∨ 262144 < n) :
    Calls Try.prog 20 #[.int .i64 n] w fun e w' => e = .returned (.tuple #[.pointer none, .int .i64 1]) ∧ w = w' := by
  by_cases c : n < 64
  · clear h
    go_enter Try.func20, Try.ntmps20
    go_wp2_with fail
    go_ret2
    exact ⟨rfl, rfl⟩
  · have c2 : 262144 < n := by omega
    clear h
    go_enter Try.func20, Try.ntmps20
    go_wp2_with fail
    go_ret2
    exact ⟨rfl, rfl⟩
/-- The i-th write that waits, in memory. -/
theorem q_at {w : World} {base : Nat} {ok : Nat → Prop} {ad : Addr} {n c : Nat} {q : List (Int × List Int)} (h : Kd.N WK 114 w base ok (.slice (some ad) n c) q) (k : Nat) (hk : k < q.length) :
    ∃ A c', w.cell? (ad.add (k * 2)) = some (.int .i64 q[k].1) ∧ w.cell? ⟨(ad.add (k * 2)).block, (ad.add (k * 2)).off + 1, none⟩ = some (.slice A q[k].2.length c') ∧ q[k].2.length ≤ c' ∧ Kd.F (Kd.int .u8) w ok A q[k].2.length q[k].2 := by
  obtain ⟨hn, _, _⟩ := Kd.N_reads' h
  have hF := Kd.N_F h
  obtain ⟨ad', cs, he, hcl, hK, hcc, _⟩ := Kd.F_get hF q[k] (k : Int) (by omega) (by omega)
  injection he with he
  subst he
  have hg : q.getD (k : Int).toNat q[k] = q[k] := by simp [List.getD_eq_getElem?_getD, hk]
  rw [hg] at hK
  obtain ⟨c0, c1, rfl, h0, ⟨A, c', rfl, hl, _⟩⟩ := Kd.FK_now hK
  have h0' : c0 = [.int .i64 q[k].1] := h0
  subst h0'
  have hcc' : ∀ j u, ([Value.int .i64 q[k].1] ++ [.slice A q[k].2.length c'])[j]? = some u → w.cell? (ad.add ((k : Int).toNat * 2 + j)) = some u := hcc
  refine ⟨A, c', hcc' 0 _ rfl, ?_, hl, fun W' hW => ?_⟩
  · rw [← add_field _ _ 1 (by omega)]
    exact hcc' 1 _ rfl
  · obtain ⟨d0, d1, he2, g0, ⟨A2, c2, rfl, _, hC⟩⟩ := hK W' hW
    have g0' : d0 = [.int .i64 q[k].1] := g0
    subst g0'
    injection he2 with _ he2
    injection he2 with he2 _
    injection he2 with ha _ _
    subst ha
    exact hC
theorem DiskAt.below {S : Nat → Prop} {w w1 : World} {g gb cap : Nat} {vq : Value} {d : Dm} (h : DiskAt w S g gb cap vq d) (hb : Below w.heap.size w w1) : DiskAt w1 S g gb cap vq d := h.chg (Chg.of_below (fun _ => False) hb) (fun _ _ hf => hf)
theorem sum_le (q : List (Int × List Int)) (m : Nat) (h : ∀ w ∈ q, w.2.length ≤ m) : (q.map fun w => w.2.length).sum ≤ q.length * m := by
  induction q with
  | nil => simp
  | cons w q ih =>
    have h1 := h w (by simp)
    have h2 := ih (fun v hv => h v (List.mem_cons_of_mem _ hv))
    rw [List.map_cons, List.sum_cons, List.length_cons, Nat.add_mul, Nat.one_mul]
    omega
def waitsTo (q : List (Int × List Int)) (k : Nat) : Nat := ((q.take k).map fun w => w.2.length).sum
theorem waitsTo_succ (q : List (Int × List Int)) (k : Nat) (h : k < q.length) : waitsTo q (k + 1) = waitsTo q k + q[k].2.length := by
  unfold waitsTo
  rw [List.take_succ_eq_append_getElem h, List.map_append, List.sum_append]
  simp
theorem q_ptr {w : World} {base : Nat} {ok : Nat → Prop} {A : Option Addr} {n c : Nat} {q : List (Int × List Int)} (h : Kd.N WK 114 w base ok (.slice A n c) q) (hk : 0 < q.length) : ∃ ad, A = some ad := by
  obtain ⟨g, cap, he, _⟩ := Kd.N_form h hk
  injection he with he
  exact ⟨_, he⟩
set_option maxHeartbeats 800000 in
set_option maxRecDepth 100000 in
theorem Waits_at {S : Nat → Prop} {g gb cap : Nat} {vq : Value} {d : Dm} {w : World} (h : DiskAt w S g gb cap vq d) (hq : d.q.length ≤ 1000000) :
    Calls Try.prog 26 #[.pointer (some ⟨g, 0, none⟩)] w fun e w' => e = .returned (.int .i64 d.waits) ∧ Below w.heap.size w w' := by
  have H := Aside0.mk h
  have HB := Aside0.mk (Below.refl w.heap.size w)
  obtain ⟨h0, h1, h2, h3⟩ := h.at_
  obtain ⟨A, c, hv⟩ := Kd.N_slice h.queue
  subst hv
  clear h h0 h2 h3
  go_enter Try.func26, Try.ntmps26
  go_wp2_with fail
  go_loopw [3, 13] (fun v3 v13 wr => ∃ (k : Nat), k ≤ d.q.length ∧ v13 = .int .i64 k ∧ v3 = .int .i64 (waitsTo d.q k) ∧ Aside0 (Below w.heap.size w wr)) (fun _ v13 _ => d.q.length - (intOf v13).toNat)
  case atStart => exact ⟨0, by omega, rfl, rfl, HB⟩
  case round =>
    clear HB
    obtain ⟨k, hk, rfl, rfl, HB⟩ := hrel
    by_cases hlt : k < d.q.length
    · obtain ⟨ad, rfl⟩ := q_ptr H.out.queue (by omega)
      obtain ⟨A2, c2, e1, e2, hl2, _⟩ := q_at (H.out.below HB.out).queue k hlt
      have hs1 := sum_le (d.q.take k) 262144 (fun v hv => by have := H.out.ok.fit v (List.mem_of_mem_take hv); have := H.out.ok.hi; omega)
      have hs2 : (d.q.take k).length ≤ 1000000 := by rw [List.length_take]; omega
      have hs3 : waitsTo d.q k ≤ 1000000 * 262144 := Nat.le_trans hs1 (Nat.mul_le_mul_right _ hs2)
      have hs4 : d.q[k].2.length ≤ 262144 := by have := H.out.ok.fit _ (List.getElem_mem hlt); have := H.out.ok.hi; omega
      have hst := waitsTo_succ d.q k hlt
      generalize hx : waitsTo d.q k = x at hs3 hst ⊢
      generalize d.q[k].2.length = y at hst e2 hs4
      generalize d.q[k].1 = z at e1
      have HX := Aside0.mk hst
      clear hs1 hs2 hst hx hl2
      go_wp2_with fail
      go_roundw
      case rel => exact ⟨k + 1, by omega, by go_num, by rw [HX.out]; go_num, ⟨below_alloc HB.out _⟩⟩
      case measure => simp [intOf]; omega
    · obtain rfl : k = d.q.length := by omega
      go_wp2_with fail
      go_ret
      exact ⟨by unfold waitsTo; rw [List.take_length]; rfl, HB.out⟩
end Go.Proofs.Ytmbemlpmfklddaa.Own
namespace Go.Proofs.Ytmbemlpmfklddaa.Own
open Go.RowKit Go.Proofs.YtmbemlpmfklddaaW.PrintWords Go.Proofs.YtmbemlpmfklddaaW.PrintLast Go.Proofs.YtmbemlpmfklddaaW.PrintMore
theorem FK_write {W : World} {base : Nat} {v : Value} {p : Int} {l : List Int} (h : OwnB W base v l) : Kd.FK WK W (fun k => v.ownBlock = some k) (p, l) [.int .i64 p, v] := by
  intro W' hW
  have h2 : OwnB W' base v l := own_move h (fun k hk => hW k hk (own_lt h k hk))
  obtain ⟨A, c, rfl, hl, hC⟩ := h2.slice
  exact ⟨[.int .i64 p], [.slice A l.length c], rfl, rfl, A, c, rfl, hl, hC⟩
section
variable {ops : Array Oper} {o : Oper} {a : Act} {Q : Exit → Act → World → Prop} {Kc : Act → World → Prop}
theorem app_write_step {w0 W : World} (base : Nat) (hw : Region.wanted o (yielded ops a.tmps) = true) (s x : Operand) (ho : o.op = .call { callee := .builtin .append, args := #[s, x], argTypes := #[108, 108] })
    (v : Value) (q : List (Int × List Int)) (p : Int) (l : List Int) (v1 : Value) (b1 : Nat) (ok : Nat → Prop) (hs : a.eval s = v) (hx : a.eval x = .slice (some ⟨W.heap.size, 0, none⟩) 1 1)
    (hO : OwnB W b1 v1 l) (hokp : ∀ k, v1.ownBlock = some k → ok k ∧ some k ≠ v.ownBlock) (hfresh : ∀ k, W.heap.size ≤ k → ok k)
    (HO : Kd.N WK 114 W base ok v q) (HB : Below base w0 W) (hbase : base ≤ W.heap.size) (hl : q.length + 1 ≤ 4000000000000)
    (h : ∀ v1 w1, Kd.N WK 114 w1 base ok v1 (q ++ [(p, l)]) → Below base w0 w1 → W.grownBy w1 v.ownBlock → (v1.ownBlock = v.ownBlock ∨ ∃ b, v1.ownBlock = some b ∧ W.heap.size ≤ b) → Kc (a.put o.dst v1) w1) :
    if Region.wanted o (yielded ops a.tmps) = true then Oper.wp Try.prog o a (W.alloc (.cells #[.int .i64 p, v1] 114)) Kc Q else Kc (a.put o.dst undef) (W.alloc (.cells #[.int .i64 p, v1] 114)) :=
  Kd.N_append_step WK base hw s x 108 114 (.agg #[.int .i64 0, .slice none 0 0]) 32 ho Try.underlying108 info114 rfl (by decide) (by omega) v q (p, l) [.int .i64 p, v1] ok (fun k => v1.ownBlock = some k) hs hx (FK_write hO) hokp hfresh HO HB hbase (by omega) h
end
section
variable {S : Nat → Prop} {w w1 w2 : World} {g gb cap : Nat} {vq : Value} {d : Dm}
theorem write_ok {l : List Int} {v1 : Value} (h : DiskAt w S g gb cap vq d) (hv : ∀ k, vq.ownBlock = some k → k < w.heap.size) (ho : OwnB w1 w.drew.heap.size v1 l) :
    ∀ k, v1.ownBlock = some k → ((S k ∨ w.heap.size ≤ k) ∧ k ≠ g ∧ k ≠ gb) ∧ some k ≠ vq.ownBlock := by
  intro k hk
  have h1 : w.heap.size ≤ k := own_base ho k hk
  have h2 := h.lt g h.inG
  have h3 := h.lt gb h.inB
  exact ⟨⟨.inr h1, by omega, by omega⟩, fun e => by have := hv k e.symm; omega⟩
theorem write_fresh (h : DiskAt w S g gb cap vq d) (hs : w.heap.size ≤ w1.heap.size) : ∀ k, w1.heap.size ≤ k → (S k ∨ w.heap.size ≤ k) ∧ k ≠ g ∧ k ≠ gb := by
  intro k hk
  have h2 := h.lt g h.inG
  have h3 := h.lt gb h.inB
  exact ⟨.inr (by omega), by omega, by omega⟩
/-- Behind the append: the disk's own block as it was. -/
theorem chg_cells (h : DiskAt w S g gb cap vq d) (_hv : ∀ k, vq.ownBlock = some k → k < w.heap.size) (hc : Chg (fun _ => False) w w1) (hg : w1.grownBy w2 vq.ownBlock) :
    w2.cell? ⟨g, 0, none⟩ = some (.slice (some ⟨gb, 0, none⟩) d.b.length cap) ∧ w2.cell? ⟨g, 1, none⟩ = some vq ∧ w2.cell? ⟨g, 3, none⟩ = some (.int .i64 d.wr) ∧ w2.frozen? ⟨g, 1, none⟩ = false ∧ w2.frozen? ⟨g, 3, none⟩ = false := by
  have hne : some g ≠ vq.ownBlock := Kd.N_ne h.queue h.cells (by decide)
  have hb : w2.heap[g]? = some (.cells #[.slice (some ⟨gb, 0, none⟩) d.b.length cap, vq, .int .i64 d.fl, .int .i64 d.wr] 110 (0, 0)) :=
    (hg.block g (Nat.lt_of_lt_of_le (h.lt g h.inG) hc.size) hne).trans (hc.blk h.cells (fun hf => hf))
  refine ⟨?_, ?_, ?_, blk_frozen hb 1, blk_frozen hb 3⟩ <;> rw [blk_cell hb] <;> rfl
theorem own_in (h : DiskAt w S g gb cap vq d) : ∀ k, vq.ownBlock = some k → S k := fun k hk => (h.queue.1 k hk).1
theorem write_chg {v2 : Value} {y : Int} (h : DiskAt w S g gb cap vq d) (hc : Chg (fun _ => False) w w1) (hg : w1.grownBy w2 vq.ownBlock) :
    Chg S w ((w2.setCell ⟨g, 1, none⟩ v2).setCell ⟨g, 3, none⟩ (.int .i64 y)) :=
  (((hc.mono (T := S) (fun _ _ hf => hf.elim)).grown hg (fun k hk => .inl (own_in h k hk))).setCell (.inl h.inG) _).setCell (.inl h.inG) _
theorem write_done {p : Int} {l : List Int} {v2 : Value} (h : DiskAt w S g gb cap vq d) (hf : d.fits p l.length) (hc : Chg (fun _ => False) w w1) (hg : w1.grownBy w2 vq.ownBlock)
    (hn : Kd.N WK 114 w2 0 (fun k => (S k ∨ w.heap.size ≤ k) ∧ k ≠ g ∧ k ≠ gb) v2 (d.q ++ [(p, l)])) :
    DiskAt ((w2.setCell ⟨g, 1, none⟩ v2).setCell ⟨g, 3, none⟩ (.int .i64 (wrap64 (d.wr + l.length)))) (fun k => S k ∨ (w.heap.size ≤ k ∧ k < ((w2.setCell ⟨g, 1, none⟩ v2).setCell ⟨g, 3, none⟩ (.int .i64 (wrap64 (d.wr + l.length)))).heap.size)) g gb cap v2 (d.write p l) := by
  have hgl := h.lt g h.inG
  have hgbl := h.lt gb h.inB
  have hne : some g ≠ vq.ownBlock := Kd.N_ne h.queue h.cells (by decide)
  have hneb : some gb ≠ vq.ownBlock := fun e => (h.queue.1 gb e.symm).2.2 rfl
  have hb : w2.heap[g]? = some (.cells #[.slice (some ⟨gb, 0, none⟩) d.b.length cap, vq, .int .i64 d.fl, .int .i64 d.wr] 110 (0, 0)) :=
    (hg.block g (Nat.lt_of_lt_of_le hgl hc.size) hne).trans (hc.blk h.cells (fun hf => hf))
  have hsz : w.heap.size ≤ w2.heap.size := Nat.le_trans hc.size hg.size
  have hsize : ((w2.setCell ⟨g, 1, none⟩ v2).setCell ⟨g, 3, none⟩ (.int .i64 (wrap64 (d.wr + l.length)))).heap.size = w2.heap.size := by simp [World.setCell]
  have hB : OwnB w2 0 (.slice (some ⟨gb, 0, none⟩) d.b.length cap) d.b :=
    own_move (h.bytes.chg hc (fun _ _ hf => hf)) (fun k hk => by
      simp [Value.ownBlock] at hk
      subst hk
      exact hg.block _ (Nat.lt_of_lt_of_le hgbl hc.size) hneb)
  refine ⟨?_, ?_, ?_, Dm.ok_write h.ok hf, .inl h.inG, .inl h.inB, h.ne, ?_⟩
  · exact blk_put (blk_set hb 1 v2) 3 _ rfl
  · refine own_move hB (fun k hk => ?_)
    simp [Value.ownBlock] at hk
    subst hk
    rw [Below.heap_setCell _ _ _ _ (by exact fun e => h.ne e.symm), Below.heap_setCell _ _ _ _ (by exact fun e => h.ne e.symm)]
  · refine Kd.N_mono (Kd.N_bound (Kd.N_far (Kd.N_far hn (p := ⟨g, 1, none⟩) (fun k hk => hk.2.1) v2) (p := ⟨g, 3, none⟩) (fun k hk => hk.2.1) _)) (fun k hk => ?_)
    obtain ⟨⟨h1, h2, h3⟩, h4⟩ := hk
    refine ⟨?_, h2, h3⟩
    rcases h1 with h1 | h1
    · exact .inl h1
    · exact .inr ⟨h1, h4⟩
  · intro k hk
    rcases hk with hk | hk
    · rw [hsize]
      exact Nat.lt_of_lt_of_le (h.lt k hk) hsz
    · exact hk.2
end
set_option maxHeartbeats 800000 in
set_option maxRecDepth 100000 in
theorem Write_yes {S : Nat → Prop} {g gb cap : Nat} {vq : Value} {d : Dm} {w : World} (h : DiskAt w S g gb cap vq d) (hq : d.q.length ≤ 1000000) (p : Int) (A : Option Addr) (c : Nat) (l : List Int)
    (hl : (Kd.int .u8).C w A l.length l) (hf : d.fits p l.length) :
    Calls Try.prog 21 #[.pointer (some ⟨g, 0, none⟩), .int .i64 p, .slice A l.length c] w fun e w' => e = .returned (.int .i64 0) ∧ (∃ vq', DiskAt w' (fun k => S k ∨ (w.heap.size ≤ k ∧ k < w'.heap.size)) g gb cap vq' (d.write p l)) ∧ Chg S w w' := by
  have H := Aside0.mk h
  have HL := Aside0.mk hl
  have HF := Aside0.mk hf
  have hll := hl.2.1
  have hl2 : l.length ≤ 262144 := by have := hf.2.2; have := hf.1; have := h.ok.hi; omega
  obtain ⟨h0, h1, h2, h3⟩ := h.at_
  have f1 := h.free 1
  have f3 := h.free 3
  have hg := h.lt g h.inG
  have hgb := h.lt gb h.inB
  clear h hl hf
  go_enter Try.func21, Try.ntmps21
  go_wp2_with (go_at_call 60; go_must (refine (ask_yes H.out p l.length HF.out).mono ?_); rintro e w' ⟨rfl, rfl⟩)
  have HV := Aside0.mk (Kd.N_lt H.out.queue)
  go_region_law (first
    | (refine app_write_step 0 rfl (.tmp 20) (.tmp 25) rfl vq d.q p l _ _ (fun k => (S k ∨ w.heap.size ≤ k) ∧ k ≠ g ∧ k ≠ gb) rfl rfl HO.out HP.out HQ.out HN.out HB.out (Nat.zero_le _) (by omega) ?_; intro v2 w2 hn hb2 hg2 hat2; obtain ⟨A2, c2, rfl⟩ := Kd.N_slice hn; rw [List.length_append, List.length_singleton] at hn; have HN2 := Aside0.mk hn; have HG := Aside0.mk hg2; have H2 := Aside0.mk (chg_cells H.out HV.out HC.out hg2); obtain ⟨k0, k1, k2, k3, k4⟩ := H2.out; clear hn hb2 hg2 hat2)
    | (go_simp; go_at_call 61; go_must (refine (Clone_calls A c l _ (by exact HL.out) (by omega)).mono ?_); go_must (rintro e w1 ⟨v1, rfl, ho, hb⟩; obtain ⟨A1, c1, rfl, hc1, _⟩ := ho.slice; have H1 := Aside0.mk (H.out.drew.below hb); have HO := Aside0.mk ho; have HC := Aside0.mk (Chg.of_below (fun _ => False) hb).from_drew; have HB := Aside0.mk (HC.out.below_none.mono (Nat.zero_le _)); have HP := Aside0.mk (write_ok H.out HV.out HO.out); have HQ := Aside0.mk (write_fresh H.out HC.out.size); have HN := Aside0.mk (Kd.N_mono H1.out.queue (fun k hk => (⟨.inl hk.1, hk.2⟩ : (S k ∨ w.heap.size ≤ k) ∧ k ≠ g ∧ k ≠ gb))); obtain ⟨h0, h1, h2, h3⟩ := H1.out.at_; have f1 := H1.out.free 1; have f3 := H1.out.free 3; have hg1 := H1.out.lt g H1.out.inG; clear ho hb)))
  all_goals
    go_wp2
    go_ret
    refine ⟨rfl, ⟨_, write_done H.out HF.out HC.out HG.out HN2.out⟩, write_chg H.out HC.out HG.out⟩
set_option maxHeartbeats 800000 in
set_option maxRecDepth 100000 in
theorem Write_no {S : Nat → Prop} {g gb cap : Nat} {vq : Value} {d : Dm} {w : World} (h : DiskAt w S g gb cap vq d) (p : Int) (A : Option Addr) (c : Nat) (n : Nat) (_hn : n ≤ 9223372036854775807) (hf : ¬ d.fits p n) :
    Calls Try.prog 21 #[.pointer (some ⟨g, 0, none⟩), .int .i64 p, .slice A n c] w fun e w' => e = .returned (.int .i64 1) ∧ w = w' := by
  have H := Aside0.mk h
  have HF := Aside0.mk hf
  clear h hf
  go_enter Try.func21, Try.ntmps21
  go_wp2_with (go_at_call 60; go_must (refine (ask_no H.out p n HF.out).mono ?_); rintro e w' ⟨rfl, rfl⟩)
  go_ret
  exact ⟨rfl, rfl⟩
set_option maxHeartbeats 800000 in
set_option maxRecDepth 100000 in
theorem Write_nil (p : Int) (A : Option Addr) (c : Nat) (n : Nat) (_hn : n ≤ 9223372036854775807) (w : World) :
    Calls Try.prog 21 #[.pointer none, .int .i64 p, .slice A n c] w fun e w' => e = .returned (.int .i64 6) ∧ w = w' := by
  go_enter Try.func21, Try.ntmps21
  go_wp2_with (go_at_call 60; go_must (refine (ask_nil p n _).mono ?_); rintro e w' ⟨rfl, rfl⟩)
  go_ret
  exact ⟨rfl, rfl⟩
set_option maxHeartbeats 800000 in
set_option maxRecDepth 100000 in
theorem Read_no {S : Nat → Prop} {g gb cap : Nat} {vq : Value} {d : Dm} {w : World} (h : DiskAt w S g gb cap vq d) (p n : Int) (hf : ¬ d.fits p n) :
    Calls Try.prog 24 #[.pointer (some ⟨g, 0, none⟩), .int .i64 p, .int .i64 n] w fun e w' => e = .returned (.tuple #[.slice none 0 0, .int .i64 1]) ∧ w = w' := by
  have H := Aside0.mk h
  have HF := Aside0.mk hf
  clear h hf
  go_enter Try.func24, Try.ntmps24
  go_wp2_with (go_at_call 60; go_must (refine (ask_no H.out p n HF.out).mono ?_); rintro e w' ⟨rfl, rfl⟩)
  go_ret2
  exact ⟨rfl, rfl⟩
set_option maxHeartbeats 800000 in
set_option maxRecDepth 100000 in
theorem Read_nil (p n : Int) (w : World) : Calls Try.prog 24 #[.pointer none, .int .i64 p, .int .i64 n] w fun e w' => e = .returned (.tuple #[.slice none 0 0, .int .i64 6]) ∧ w = w' := by
  go_enter Try.func24, Try.ntmps24
  go_wp2_with (go_at_call 60; go_must (refine (ask_nil p n _).mono ?_); rintro e w' ⟨rfl, rfl⟩)
  go_ret2
  exact ⟨rfl, rfl⟩
end Go.Proofs.Ytmbemlpmfklddaa.Own
