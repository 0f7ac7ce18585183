/- (*Disk).settle in memory: a range over a function. -/
import Derived.Test.YtmbemlpmfklddaaIter
namespace Go.Proofs.Ytmbemlpmfklddaa.Own
open Go.RowKit Go.Proofs.YtmbemlpmfklddaaW.PrintWords Go.Proofs.YtmbemlpmfklddaaW.PrintLast Go.Proofs.YtmbemlpmfklddaaW.PrintMore
attribute [local go_sem] Oper.semAt_some
set_option maxHeartbeats 400000 in
set_option maxRecDepth 100000 in
theorem bytes_in (F : Fence) (n : Nat) (h91 : F.fn 91) (hro : F.round = none) (p : Option Addr) (w : World) :
    CallsIn F n Try.prog 91 #[.pointer p] w fun e w' => e = .returned (.func (.func 96) #[] #[.pointer (some ⟨w.heap.size, 0, none⟩)]) ∧ w' = w.alloc (.cells #[.pointer p] 32) := by
  refine callsIn_of_wp Try.func91 rfl h91 ?_ hro
  simp only [Try.ntmps91, List.size_toArray, List.length_cons, List.length_nil, Nat.reduceAdd, Nat.reduceSub, Array.replicate_succ, Array.replicate_zero, List.push_toArray, List.append_toArray, List.nil_append, List.cons_append]
  gi_wp2
  go_ret
  exact ⟨rfl, rfl⟩
/-- Between two rounds: so many bytes have lasted. -/
structure SetI (S : Nat → Prop) (g gb cap : Nat) (vq : Value) (d : Dm) (w : World) (last : Int) (pre : List (PB d.b.length)) (W : World) : Prop where
  le : (pre.length : Int) ≤ max last 0
  c0 : W.heap[w.heap.size]? = some (.cells #[.pointer (some ⟨g, 0, none⟩)] 32 (0, 0))
  c1 : W.heap[w.heap.size + 1]? = some (.cells #[.int .i64 last] 3 (0, 0))
  c2 : W.heap[w.heap.size + 1 + 1]? = some (.cells #[.int .i64 pre.length] 3 (0, 0))
  disk : DiskAt W S g gb cap vq { d with b := putAll d.b (pre.map (·.1)) }
  chg : Chg S w W
def SetX (S : Nat → Prop) (g gb cap : Nat) (vq : Value) (d : Dm) (w : World) (last : Int) (c : Code) (pre : List (PB d.b.length)) (W : World) : Prop :=
  ∃ pre0 x, pre = pre0 ++ [x] ∧ c = .exit 0 ∧ last ≤ pre0.length ∧ SetI S g gb cap vq d w last pre0 W
section
variable {S : Nat → Prop} {g gb cap : Nat} {vq : Value} {d : Dm} {w : World} {last : Int}
theorem SetI.own (hS : ∀ k, S k → k < w.heap.size) : OwnFrom (w.heap.size + 1 + 1 + 1 + 1) (SetI S g gb cap vq d w last) := by
  intro pre W W' row h hg hr
  have hb : ∀ k, k < W.heap.size → k < w.heap.size + 1 + 1 + 1 + 1 → W'.heap[k]? = W.heap[k]? := fun k hk hk2 => hg.block k hk (fun e => by
    have := (hr k e.symm).1
    omega)
  have hc : Chg (fun k => some k = row) W W' := ⟨hg.os, hg.tape, hg.output, hg.size, fun k hk hn => hg.block k hk hn⟩
  refine ⟨h.le, ?_, ?_, ?_, h.disk.chg hc (fun k hk e => by have := (hr k e.symm).1; have := hS k hk; omega), h.chg.then_ hc (fun k e => .inr (by have := (hr k e.symm).1; omega))⟩
  · rw [hb _ (blk_lt h.c0) (by omega)]; exact h.c0
  · rw [hb _ (blk_lt h.c1) (by omega)]; exact h.c1
  · rw [hb _ (blk_lt h.c2) (by omega)]; exact h.c2
theorem SetX.own (hS : ∀ k, S k → k < w.heap.size) (c : Code) : OwnFrom (w.heap.size + 1 + 1 + 1 + 1) (SetX S g gb cap vq d w last c) := by
  rintro pre W W' row ⟨pre0, x, h1, h2, h3, h4⟩ hg hr
  exact ⟨pre0, x, h1, h2, h3, SetI.own hS pre0 W W' row h4 hg hr⟩
/-- One byte more has lasted. -/
theorem SetI.step {pre : List (PB d.b.length)} {W : World} (h : SetI S g gb cap vq d w last pre W) (hS : ∀ k, S k → k < w.heap.size) (x : PB d.b.length) (hl : (pre.length : Int) < last) :
    SetI S g gb cap vq d w last (pre ++ [x]) ((W.setCell ⟨gb, x.1.1, none⟩ (.int .u8 x.1.2)).setCell ⟨w.heap.size + 1 + 1, 0, none⟩ (.int .i64 (pre.length + 1))) := by
  have hg := hS g h.disk.inG
  have hgb := hS gb h.disk.inB
  have hlen : (putAll d.b (pre.map (·.1))).length = d.b.length := putAll_length _ _
  have hput : putAll d.b ((pre ++ [x]).map (·.1)) = (putAll d.b (pre.map (·.1))).set x.1.1 x.1.2 := by rw [List.map_append, putAll_append]; rfl
  have hB : OwnB (W.setCell ⟨gb, x.1.1, none⟩ (.int .u8 x.1.2)) 0 (.slice (some ⟨gb, 0, none⟩) (putAll d.b (pre.map (·.1))).length cap) ((putAll d.b (pre.map (·.1))).set x.1.1 x.1.2) := by
    have h1 := own_put h.disk.bytes (x.1.1 : Int) x.1.2
    rw [show ((x.1.1 : Nat) : Int).toNat = x.1.1 from by omega] at h1
    unfold OwnB
    rw [List.length_set] at h1 ⊢
    exact h1
  refine ⟨by rw [List.length_append, List.length_singleton]; omega, ?_, ?_, ?_, ⟨?_, ?_, ?_, ?_, h.disk.inG, h.disk.inB, h.disk.ne, ?_⟩, ?_⟩
  · exact blk_far (blk_far h.c0 (by exact fun e => by simp at e; omega) _) (by exact fun e => by simp at e; omega) _
  · exact blk_far (blk_far h.c1 (by exact fun e => by simp at e; omega) _) (by exact fun e => by simp at e) _
  · rw [List.length_append, List.length_singleton]
    exact blk_put (blk_far h.c2 (by exact fun e => by simp at e; omega) _) 0 _ rfl
  · show _ = some (Obj.cells #[.slice (some ⟨gb, 0, none⟩) (putAll d.b ((pre ++ [x]).map (·.1))).length cap, vq, .int .i64 d.fl, .int .i64 d.wr] 110 (0, 0))
    rw [hput, List.length_set]
    exact blk_far (blk_far h.disk.cells (by exact h.disk.ne) _) (by exact fun e => by simp at e; omega) _
  · show OwnB _ 0 (.slice (some ⟨gb, 0, none⟩) (putAll d.b ((pre ++ [x]).map (·.1))).length cap) (putAll d.b ((pre ++ [x]).map (·.1)))
    rw [hput, List.length_set]
    exact own_move hB (fun k hk => by
      simp [Value.ownBlock] at hk
      subst hk
      exact Below.heap_setCell _ _ _ _ (by exact fun e => by simp at e; omega))
  · exact Kd.N_far (Kd.N_far h.disk.queue (p := ⟨gb, x.1.1, none⟩) (fun k hk => hk.2.2) _) (p := ⟨w.heap.size + 1 + 1, 0, none⟩) (fun k hk e => by have := hS k hk.1; simp at e; omega) _
  · have ho := h.disk.ok
    have hl2 : (putAll d.b ((pre ++ [x]).map (·.1))).length = d.b.length := putAll_length _ _
    refine ⟨?_, ?_, ?_⟩
    · show 64 ≤ (putAll d.b ((pre ++ [x]).map (·.1))).length
      rw [hl2, ← hlen]; exact ho.lo
    · show (putAll d.b ((pre ++ [x]).map (·.1))).length ≤ 262144
      rw [hl2, ← hlen]; exact ho.hi
    · intro v hv
      show 0 ≤ v.1 ∧ v.1 + v.2.length ≤ (putAll d.b ((pre ++ [x]).map (·.1))).length
      rw [hl2, ← hlen]; exact ho.fit v hv
  · intro k hk
    have := h.disk.lt k hk
    simpa [World.setCell] using this
  · exact (h.chg.setCell (.inl h.disk.inB) _).setCell (.inr (by show w.heap.size ≤ w.heap.size + 1 + 1; omega)) _
end
theorem enters96 : ∀ (args : Array Value) (w : World), (callFunc 96 args).run Try.prog w = .ok (.enter 96 args) w := by
  intro args w
  have h1 : Try.f96.name ≠ "runtime.NumGoroutine" := by
    have : (Try.f96.name == "runtime.NumGoroutine") = false := by kernel_rfl
    simpa using this
  have hb : Try.f96.body.isSome = true := by kernel_rfl
  obtain ⟨c, hc⟩ := Option.isSome_iff_exists.1 hb
  simp [callFunc, Try.func96, h1, hc, mark]
theorem SetI.start {S : Nat → Prop} {g gb cap : Nat} {vq : Value} {d : Dm} {w : World} (last : Int) (h : DiskAt w S g gb cap vq d) :
    SetI S g gb cap vq d w last [] ((((w.alloc (.cells #[.pointer (some ⟨g, 0, none⟩)] 32)).alloc (.cells #[.int .i64 last] 3)).alloc (.cells #[.int .i64 0] 3)).alloc (.cells #[.pointer (some ⟨g, 0, none⟩)] 32)) := by
  have z1 : (w.alloc (.cells #[.pointer (some ⟨g, 0, none⟩)] 32)).heap.size = w.heap.size + 1 := by simp
  have z2 : ((w.alloc (.cells #[.pointer (some ⟨g, 0, none⟩)] 32)).alloc (.cells #[.int .i64 last] 3)).heap.size = w.heap.size + 1 + 1 := by simp
  have b1 := below_alloc (Below.refl _ w) (.cells #[.pointer (some ⟨g, 0, none⟩)] 32)
  have b2 := below_alloc b1 (.cells #[.int .i64 last] 3)
  have b3 := below_alloc b2 (.cells #[.int .i64 0] 3)
  have b4 := below_alloc b3 (.cells #[.pointer (some ⟨g, 0, none⟩)] 32)
  refine ⟨by simp; omega, ?_, ?_, ?_, h.below b4, Chg.of_below _ b4⟩
  · rw [Below.heap_alloc _ _ _ (by simp; omega), Below.heap_alloc _ _ _ (by simp; omega), Below.heap_alloc _ _ _ (by simp)]
    exact heap_alloc_new _ _
  · rw [Below.heap_alloc _ _ _ (by simp), Below.heap_alloc _ _ _ (by simp), ← z1]
    exact heap_alloc_new _ _
  · rw [Below.heap_alloc _ _ _ (by simp), ← z2]
    exact heap_alloc_new _ _
theorem kpD_put {n0 gb nb l : Nat} (W : World) (o o' : Obj) (hl : n0 ≤ l) (h : W.heap[l]? = some o) (hc : o.isCells = false) : KpD n0 gb nb W (W.putObj l o') :=
  ⟨by simp, fun k o2 hk h1 _ _ => by
    have hne : k ≠ l := by
      rintro rfl
      rw [h] at hk
      injection hk with hk
      subst hk
      rcases h1 with h1 | h1
      · omega
      · rw [hc] at h1; cases h1
    rw [World.putObj_heap_other hne]
    exact hk⟩
theorem kpD_step {n0 gb nb a : Nat} {u v : Value} (W : World) : KpD n0 gb nb W ((W.setCell ⟨gb, a, none⟩ u).setCell ⟨nb, 0, none⟩ v) :=
  ⟨by simp [World.setCell], fun k o hk _ h1 h2 => by
    rw [Below.heap_setCell _ _ _ _ (by exact h2), Below.heap_setCell _ _ _ _ (by exact h1)]
    exact hk⟩
theorem SetI.finish {S : Nat → Prop} {g gb cap : Nat} {vq : Value} {d : Dm} {w : World} {last : Int} {pre : List (PB d.b.length)} {W : World} (h : SetI S g gb cap vq d w last pre W) (hS : ∀ k, S k → k < w.heap.size)
    (hp : pre.map (·.1) = (pend d.q).take last.toNat) {D : Nat} (hD : w.heap.size ≤ D) (o : Obj) :
    DiskAt ((W.setCell ⟨g, 1, none⟩ (.slice none 0 0)).putObj D o) S g gb cap (.slice none 0 0) (d.settle last) ∧ Chg S w ((W.setCell ⟨g, 1, none⟩ (.slice none 0 0)).putObj D o) := by
  have hg := hS g h.disk.inG
  have hgb := hS gb h.disk.inB
  have hb : putAll d.b (pre.map (·.1)) = (d.settle last).b := by rw [hp]; rfl
  have hc : Chg (fun k => k = D) (W.setCell ⟨g, 1, none⟩ (.slice none 0 0)) ((W.setCell ⟨g, 1, none⟩ (.slice none 0 0)).putObj D o) :=
    ⟨rfl, rfl, rfl, by simp, fun k _ hn => World.putObj_heap_other hn⟩
  have hd : DiskAt (W.setCell ⟨g, 1, none⟩ (.slice none 0 0)) S g gb cap (.slice none 0 0) (d.settle last) := by
    refine ⟨?_, ?_, Kd.N_nil _ _ _ _ _, Dm.ok_settle ⟨?_, ?_, ?_⟩ last, h.disk.inG, h.disk.inB, h.disk.ne, ?_⟩
    · have := h.disk.cells
      rw [← hb]
      exact blk_put this 1 _ rfl
    · rw [← hb]
      refine own_move h.disk.bytes (fun k hk => ?_)
      simp [Value.ownBlock] at hk
      subst hk
      exact Below.heap_setCell _ _ _ _ (by exact fun e => h.disk.ne e.symm)
    · have := h.disk.ok.lo
      rwa [show (putAll d.b (pre.map (·.1))).length = d.b.length from putAll_length _ _] at this
    · have := h.disk.ok.hi
      rwa [show (putAll d.b (pre.map (·.1))).length = d.b.length from putAll_length _ _] at this
    · intro v hv
      have := h.disk.ok.fit v hv
      rwa [show (putAll d.b (pre.map (·.1))).length = d.b.length from putAll_length _ _] at this
    · intro k hk
      have := h.disk.lt k hk
      simpa [World.setCell] using this
  exact ⟨hd.chg hc (fun k hk e => by have := hS k hk; omega), (h.chg.setCell (.inl h.disk.inG) _).then_ hc (fun k e => .inr (by omega))⟩
set_option maxHeartbeats 2000000 in
set_option maxRecDepth 100000 in
theorem settle_at {S : Nat → Prop} {g gb cap : Nat} {vq : Value} {d : Dm} {w : World} (h : DiskAt w S g gb cap vq d) (hq : d.q.length ≤ 1000000) (last : Int) :
    Calls Try.prog 63 #[.pointer (some ⟨g, 0, none⟩), .int .i64 last] w fun e w' => e = .returned (.tuple #[]) ∧ DiskAt w' S g gb cap (.slice none 0 0) (d.settle last) ∧ Chg S w w' := by
  have H := Aside0.mk h
  have HI := Aside0.mk (SetI.start last h)
  have hS := h.lt
  have HS := Aside0.mk hS
  have hgb := hS gb h.inB
  have hgg := hS g h.inG
  have hdl := h.ok.hi
  have HF := Aside0.mk h.ok.fit
  have HPL := Aside0.mk (show (pend d.q).length ≤ 1000000 * 262144 by
    rw [pend_length]
    exact Nat.le_trans (sum_le d.q 262144 (fun v hv => by have := HF.out v hv; omega)) (Nat.mul_le_mul_right _ hq))
  have b4 := below_alloc (below_alloc (below_alloc (below_alloc (Below.refl _ w) (.cells #[.pointer (some ⟨g, 0, none⟩)] 32)) (.cells #[.int .i64 last] 3)) (.cells #[.int .i64 0] 3)) (.cells #[.pointer (some ⟨g, 0, none⟩)] 32)
  have H4 := Aside0.mk (h.below b4)
  clear h hS b4
  refine (callsIn_wide (n := 9)).1 ?_
  refine callsIn_of_wp_marks Try.func63 rfl trivial ?_ rfl
  simp only [Try.ntmps63, List.size_toArray, List.length_cons, List.length_nil, Nat.reduceAdd, Nat.reduceSub, Array.replicate_succ, Array.replicate_zero, List.push_toArray, List.append_toArray, List.nil_append, List.cons_append]
  gi_wp2_with (refine ⟨trivial, ?_⟩; gi_at_call 91; refine (bytes_in Fence.wide _ trivial rfl _ _).mono ?_; rintro e w' ⟨rfl, rfl⟩)
  obtain ⟨wl, hwl⟩ : ∃ wl, wl = ((((w.alloc (.cells #[.pointer (some ⟨g, 0, none⟩)] 32)).alloc (.cells #[.int .i64 last] 3)).alloc (.cells #[.int .i64 0] 3)).alloc (.cells #[.pointer (some ⟨g, 0, none⟩)] 32)) := ⟨_, rfl⟩
  have hbox : wl.cell? ⟨w.heap.size + 1 + 1 + 1, 0, none⟩ = some (.pointer (some ⟨g, 0, none⟩)) := by
    have z3 : (((w.alloc (.cells #[.pointer (some ⟨g, 0, none⟩)] 32)).alloc (.cells #[.int .i64 last] 3)).alloc (.cells #[.int .i64 0] 3)).heap.size = w.heap.size + 1 + 1 + 1 := by simp
    have hb : wl.heap[w.heap.size + 1 + 1 + 1]? = some (.cells #[.pointer (some ⟨g, 0, none⟩)] 32 (0, 0)) := by rw [hwl, ← z3]; exact heap_alloc_new _ _
    rw [blk_cell hb]; rfl
  have hsz : wl.heap.size = w.heap.size + 1 + 1 + 1 + 1 := by rw [hwl]; simp
  rw [← hwl] at HI H4 ⊢
  clear hwl
  refine wpIn_rangeFunc_ownG rfl (by omega) (gf := 96) (lb := #[.pointer (some ⟨w.heap.size + 1 + 1 + 1, 0, none⟩)]) rfl trivial enters96
    (encs := fun x : PB d.b.length => #[.int .i64 (x.1.1 : Int), .int .u8 x.1.2]) (Kp := KpD wl.heap.size gb (w.heap.size + 1 + 1)) (S := fun xs => xs.map (·.1) = pend d.q) (Sp := fun xs => xs.map (·.1) <+: pend d.q) (N := (pend d.q).length) (w0 := wl)
    ?seq (fun h k => h.trans k) (fun W l o o' hl h hc _ => kpD_put W o o' hl h hc) (Below.refl _ _) (fun _ => rfl)
    (SetI S g gb cap vq d w last) (SetX S g gb cap vq d w last) (by rw [hsz]; exact SetI.own HS.out) (fun c => by rw [hsz]; exact SetX.own HS.out c) HI.out
    (fun x => { tmps := #[.pointer (some ⟨g, 0, none⟩), .int .i64 last, .pointer (some ⟨w.heap.size, 0, none⟩), .pointer (some ⟨w.heap.size + 1, 0, none⟩), .pointer (some ⟨w.heap.size + 1 + 1, 0, none⟩), .int .i64 (x.1.1 : Int), .int .u8 x.1.2, .pointer (some ⟨g, 0, none⟩), .func (.func 96) #[] #[.pointer (some ⟨w.heap.size + 1 + 1 + 1, 0, none⟩)], .int .i64 (x.1.1 : Int), .int .u8 x.1.2, undef, undef, undef, undef, undef, undef, undef, undef, undef, undef, undef, undef, undef, undef, undef], defers := [] }) ?assign ?body ?done ?stop
  case seq =>
    intro l J Jx W hb hJ hJx hY h0
    have hgl : g < wl.heap.size := by omega
    refine bytes1_in Fence.wide _ trivial rfl (by omega) l (w.heap.size + 1 + 1 + 1) g gb (w.heap.size + 1 + 1) wl.heap.size d.b.length d.q vq (fun k => S k ∧ k ≠ g ∧ k ≠ gb) HF.out hdl hq J Jx W hJ hY ?_ ?_ ?_ ?_ ?_ ?_ ?_ h0
    · have := hb.size; omega
    · have := hb.size; omega
    · intro k hk
      have := HS.out k hk.1
      exact ⟨by omega, hk.2.2, by omega⟩
    · rw [hb.cell (p := ⟨w.heap.size + 1 + 1 + 1, 0, none⟩) (by show w.heap.size + 1 + 1 + 1 < wl.heap.size; omega)]; exact hbox
    · rw [hb.cell (p := ⟨g, 1, none⟩) hgl]; exact H4.out.at_.2.1
    · exact Kd.N_below H4.out.queue hb
    · intro k hk
      have := HS.out k hk.1
      have := hb.size
      omega
  case assign =>
    intro l x W K hK
    gi_wp2
    exact hK
  case body =>
    rintro l pre x W hi hlen
    have HI2 := Aside0.mk hi
    have p0 : W.cell? ⟨w.heap.size, 0, none⟩ = some (.pointer (some ⟨g, 0, none⟩)) := by rw [blk_cell hi.c0]; rfl
    have p1 : W.cell? ⟨w.heap.size + 1, 0, none⟩ = some (.int .i64 last) := by rw [blk_cell hi.c1]; rfl
    have p2 : W.cell? ⟨w.heap.size + 1 + 1, 0, none⟩ = some (.int .i64 pre.length) := by rw [blk_cell hi.c2]; rfl
    have p3 : W.frozen? ⟨w.heap.size + 1 + 1, 0, none⟩ = false := blk_frozen hi.c2 0
    obtain ⟨q0, _, _, _⟩ := hi.disk.at_
    have hlen2 : (putAll d.b (pre.map (·.1))).length = d.b.length := putAll_length _ _
    have q0' : W.cell? ⟨g, 0, none⟩ = some (.slice (some ⟨gb, 0, none⟩) d.b.length cap) := by rw [q0]; show some (Value.slice _ (putAll d.b (pre.map (·.1))).length _) = _; rw [hlen2]
    have hx := x.2
    obtain ⟨s0, s1⟩ := own_at hi.disk.bytes (x.1.1 : Int) (by omega) (by show (x.1.1 : Int) < ((putAll d.b (pre.map (·.1))).length : Int); rw [hlen2]; omega)
    rw [show ((x.1.1 : Nat) : Int).toNat = x.1.1 from by omega] at s0 s1
    have hnb : w.heap.size + 1 + 1 ≠ gb := by omega
    clear q0 hi hlen2
    by_cases hc : last ≤ (pre.length : Int)
    · gi_wp2
      exact ⟨KeepsFrom.refl _ _, pre, x, rfl, rfl, hc, HI2.out⟩
    · have hpl : (pre.length : Int) < 9223372036854775807 := by have := HPL.out; omega
      gi_wp2
      exact ⟨((KeepsOthers.setCell _ _ _).trans (KeepsOthers.setCell _ _ _)).from _, kpD_step W, SetI.step HI2.out HS.out x (by omega)⟩
  case done =>
    rintro D ys W hD hys hi hK
    have HI2 := Aside0.mk hi
    have HK := Aside0.mk hK
    have p0 : W.cell? ⟨w.heap.size, 0, none⟩ = some (.pointer (some ⟨g, 0, none⟩)) := by rw [blk_cell hi.c0]; rfl
    obtain ⟨_, q1, _, _⟩ := hi.disk.at_
    have q2 := hi.disk.free 1
    have HY := Aside0.mk hys
    clear hi hK hys
    gi_wp2
    have hK2 : (W.setCell ⟨g, 1, none⟩ (.slice none 0 0)).heap[D]? = some (.deferred (some [])) := by
      rw [Below.heap_setCell _ _ _ _ (by show D ≠ g; omega)]
      exact HK.out
    have hp : ys.map (·.1) = (pend d.q).take last.toNat := by
      have h1 := congrArg List.length HY.out
      rw [List.length_map] at h1
      have h2 := HI2.out.le
      rw [HY.out, List.take_of_length_le (by omega)]
    obtain ⟨f1, f2⟩ := HI2.out.finish HS.out hp (show w.heap.size ≤ D by omega) (.deferred none)
    refine ⟨by simp, .inl ⟨_, _, rfl, run_takeDeferred hK2, ?_⟩⟩
    exact ⟨_, results_none rfl _ _ _, rfl, f1, f2⟩
  case stop =>
    rintro D c pre W hD hp ⟨pre0, x, hpx, rfl, hl, hi⟩ hK
    have HI2 := Aside0.mk hi
    have HK := Aside0.mk hK
    have p0 : W.cell? ⟨w.heap.size, 0, none⟩ = some (.pointer (some ⟨g, 0, none⟩)) := by rw [blk_cell hi.c0]; rfl
    obtain ⟨_, q1, _, _⟩ := hi.disk.at_
    have q2 := hi.disk.free 1
    have HY := Aside0.mk hp
    have HX := Aside0.mk hpx
    clear hi hK hp hpx
    gi_wp2
    have hK2 : (W.setCell ⟨g, 1, none⟩ (.slice none 0 0)).heap[D]? = some (.deferred (some [])) := by
      rw [Below.heap_setCell _ _ _ _ (by show D ≠ g; omega)]
      exact HK.out
    have hp : pre0.map (·.1) = (pend d.q).take last.toNat := by
      have h2 := HI2.out.le
      have h1 := HY.out
      rw [HX.out, List.map_append] at h1
      have h3 := List.IsPrefix.trans (List.prefix_append _ _) h1
      have h4 := List.prefix_iff_eq_take.1 h3
      rcases Nat.eq_zero_or_pos pre0.length with h0 | h0
      · have : pre0 = [] := List.eq_nil_of_length_eq_zero h0
        subst this
        rw [show last.toNat = 0 by simp at hl; omega]
        rfl
      · rw [h4, List.length_map]
        congr 1
        omega
    obtain ⟨f1, f2⟩ := HI2.out.finish HS.out hp (show w.heap.size ≤ D by omega) (.deferred none)
    refine ⟨by simp, .inl ⟨_, _, rfl, run_takeDeferred hK2, ?_⟩⟩
    exact ⟨_, results_none rfl _ _ _, rfl, f1, f2⟩
end Go.Proofs.Ytmbemlpmfklddaa.Own
