/- What a call may turn: the blocks of S and what is new; a disk in memory. -/
import Derived.Test.YtmbemlpmfklddaaRows2
import Derived.Test.YtmbemlpmfklddaaDm
namespace Go.Proofs.Ytmbemlpmfklddaa.Own
open Go.RowKit Go.Proofs.YtmbemlpmfklddaaW.PrintWords Go.Proofs.YtmbemlpmfklddaaW.PrintLast Go.Proofs.YtmbemlpmfklddaaW.PrintMore
/-- Of what was there only blocks of S may have turned. -/
structure Chg (S : Nat → Prop) (w w' : World) : Prop where
  os : w'.os = w.os
  tape : w'.tape = w.tape
  output : w'.output = w.output
  size : w.heap.size ≤ w'.heap.size
  block : ∀ k, k < w.heap.size → ¬ S k → w'.heap[k]? = w.heap[k]?
section
variable {S T : Nat → Prop} {w w1 w2 : World}
theorem Chg.refl (S : Nat → Prop) (w : World) : Chg S w w := ⟨rfl, rfl, rfl, Nat.le_refl _, fun _ _ _ => rfl⟩
theorem Chg.of_below (S : Nat → Prop) (h : Below w.heap.size w w1) : Chg S w w1 := ⟨h.os, h.tape, h.output, h.size, fun k hk _ => h.block k hk⟩
theorem Chg.mono (h : Chg S w w1) (hs : ∀ k, k < w.heap.size → S k → T k) : Chg T w w1 := ⟨h.os, h.tape, h.output, h.size, fun k hk hn => h.block k hk (fun hS => hn (hs k hk hS))⟩
theorem Chg.then_ (h : Chg S w w1) (k : Chg T w1 w2) (hs : ∀ k, T k → S k ∨ w.heap.size ≤ k) : Chg S w w2 :=
  ⟨k.os.trans h.os, k.tape.trans h.tape, k.output.trans h.output, Nat.le_trans h.size k.size, fun i hi hn => (k.block i (Nat.lt_of_lt_of_le hi h.size) (fun h2 => (hs i h2).elim hn (fun h3 => by omega))).trans (h.block i hi hn)⟩
theorem Chg.below (h : Chg S w w1) (hb : Below w1.heap.size w1 w2) : Chg S w w2 := h.then_ (Chg.of_below (fun _ => False) hb) (fun _ hk => hk.elim)
theorem Chg.alloc (h : Chg S w w1) (o : Obj) : Chg S w (w1.alloc o) := h.below (below_alloc (Below.refl _ _) o)
theorem Chg.drew (h : Chg S w w1) : Chg S w w1.drew := ⟨h.os, h.tape, h.output, h.size, h.block⟩
theorem Chg.drewN (h : Chg S w w1) (n : Nat) : Chg S w (w1.drewN n) := ⟨h.os, h.tape, h.output, h.size, h.block⟩
theorem Chg.from_drew (h : Chg S w.drew w1) : Chg S w w1 := ⟨h.os, h.tape, h.output, h.size, h.block⟩
theorem Chg.setCell (h : Chg S w w1) {p : Addr} (hp : S p.block ∨ w.heap.size ≤ p.block) (u : Value) : Chg S w (w1.setCell p u) :=
  h.then_ (T := fun k => k = p.block) ⟨rfl, rfl, rfl, by simp [World.setCell], fun i _ hn => Below.heap_setCell w1 p u i hn⟩ (fun k hk => by rw [hk]; exact hp)
theorem Chg.grown {row : Option Nat} (h : Chg S w w1) (hg : w1.grownBy w2 row) (hr : ∀ k, row = some k → S k ∨ w.heap.size ≤ k) : Chg S w w2 :=
  h.then_ (T := fun k => row = some k) ⟨hg.os, hg.tape, hg.output, hg.size, fun i hi hn => hg.block i hi (fun he => hn he.symm)⟩ hr
/-- What a call may turn lies from B on: below B all is as it was. -/
theorem Chg.toBelow {B : Nat} {w0 : World} (hb : Below B w0 w) (h : Chg S w w1) (hB : B ≤ w.heap.size) (hs : ∀ k, S k → B ≤ k) : Below B w0 w1 :=
  hb.trans ⟨h.os, h.tape, h.output, h.size, fun k hk => h.block k (by omega) (fun hS => by have := hs k hS; omega)⟩
theorem Chg.below_none (h : Chg (fun _ => False) w w1) : Below w.heap.size w w1 := ⟨h.os, h.tape, h.output, h.size, fun k hk => h.block k hk (fun hf => hf)⟩
theorem Chg.blk (h : Chg S w w1) {g : Nat} {o : Obj} (hb : w.heap[g]? = some o) (hg : ¬ S g) : w1.heap[g]? = some o := (h.block g (blk_lt hb) hg).trans hb
theorem OwnB.chg {base : Nat} {v : Value} {xs : List Int} (h : OwnB w base v xs) (hc : Chg S w w1) (hne : ∀ k, v.ownBlock = some k → ¬ S k) : OwnB w1 base v xs :=
  own_move h (fun k hk => hc.block k (own_lt h k hk) (hne k hk))
theorem OwnB.lower {base base' : Nat} {v : Value} {xs : List Int} (h : OwnB w base v xs) (hb : base' ≤ base) : OwnB w base' v xs := own_weaken h hb
theorem F_chg {α : Type} {d : Kd α} {ok : Nat → Prop} {A : Option Addr} {n : Nat} {xs : List α} (h : Kd.F d w ok A n xs) (hc : Chg S w w1) (hok : ∀ k, ok k → ¬ S k) : Kd.F d w1 ok A n xs :=
  Kd.F_step h (fun k hk hlt => hc.block k hlt (hok k hk))
theorem N_chg {α : Type} {d : Kd α} {e base : Nat} {ok : Nat → Prop} {v : Value} {xs : List α} (h : Kd.N d e w base ok v xs) (hc : Chg S w w1) (hok : ∀ k, ok k → ¬ S k) : Kd.N d e w1 base ok v xs :=
  Kd.N_step h (fun k hk hlt => hc.block k hlt (hok k hk))
end

/-- A write that waits, as a kind: a place, and bytes. -/
abbrev WK : Kd (Int × List Int) := Kd.pair (Kd.int .i64) BL
theorem info114 : (Try.prog.info? 114).map (fun i => (i.zero, i.size, i.bytes)) = some (some (.agg #[.int .i64 0, .slice none 0 0]), 2, 32) := by kernel_rfl
/-- A disk in memory, at block g: its own blocks are of S. -/
structure DiskAt (w : World) (S : Nat → Prop) (g gb cap : Nat) (vq : Value) (d : Dm) : Prop where
  cells : w.heap[g]? = some (.cells #[.slice (some ⟨gb, 0, none⟩) d.b.length cap, vq, .int .i64 d.fl, .int .i64 d.wr] 110 (0, 0))
  bytes : OwnB w 0 (.slice (some ⟨gb, 0, none⟩) d.b.length cap) d.b
  queue : Kd.N WK 114 w 0 (fun k => S k ∧ k ≠ g ∧ k ≠ gb) vq d.q
  ok : d.Ok
  inG : S g
  inB : S gb
  ne : g ≠ gb
  lt : ∀ k, S k → k < w.heap.size
def IsDisk (w : World) (S : Nat → Prop) (g : Nat) (d : Dm) : Prop := ∃ gb cap vq, DiskAt w S g gb cap vq d
section
variable {S T : Nat → Prop} {w w1 : World} {g gb cap : Nat} {vq : Value} {d : Dm}
theorem DiskAt.chg (h : DiskAt w S g gb cap vq d) (hc : Chg T w w1) (hne : ∀ k, S k → ¬ T k) : DiskAt w1 S g gb cap vq d :=
  ⟨hc.blk h.cells (hne g h.inG), h.bytes.chg hc (fun k hk => by simp [Value.ownBlock] at hk; subst hk; exact hne _ h.inB), N_chg h.queue hc (fun k hk => hne k hk.1), h.ok, h.inG, h.inB, h.ne, fun k hk => Nat.lt_of_lt_of_le (h.lt k hk) hc.size⟩
theorem IsDisk.chg (h : IsDisk w S g d) (hc : Chg T w w1) (hne : ∀ k, S k → ¬ T k) : IsDisk w1 S g d := by
  obtain ⟨gb, cap, vq, h⟩ := h
  exact ⟨gb, cap, vq, h.chg hc hne⟩
theorem IsDisk.below (h : IsDisk w S g d) (hb : Below w.heap.size w w1) : IsDisk w1 S g d := h.chg (Chg.of_below (fun _ => False) hb) (fun _ _ hf => hf)
theorem IsDisk.ok (h : IsDisk w S g d) : d.Ok := by obtain ⟨_, _, _, h⟩ := h; exact h.ok
theorem IsDisk.lt (h : IsDisk w S g d) : ∀ k, S k → k < w.heap.size := by obtain ⟨_, _, _, h⟩ := h; exact h.lt
theorem IsDisk.inG (h : IsDisk w S g d) : S g := by obtain ⟨_, _, _, h⟩ := h; exact h.inG
theorem DiskAt.drew (h : DiskAt w S g gb cap vq d) : DiskAt w.drew S g gb cap vq d := h.chg (Chg.refl (fun _ => False) w).drew (fun _ _ hf => hf)
/-- The four cells, as the walk asks for them. -/
theorem DiskAt.at_ (h : DiskAt w S g gb cap vq d) : w.cell? ⟨g, 0, none⟩ = some (.slice (some ⟨gb, 0, none⟩) d.b.length cap) ∧ w.cell? ⟨g, 1, none⟩ = some vq ∧ w.cell? ⟨g, 2, none⟩ = some (.int .i64 d.fl) ∧ w.cell? ⟨g, 3, none⟩ = some (.int .i64 d.wr) := by
  refine ⟨?_, ?_, ?_, ?_⟩ <;> rw [blk_cell h.cells] <;> rfl
theorem DiskAt.free (h : DiskAt w S g gb cap vq d) (i : Nat) : w.frozen? ⟨g, i, none⟩ = false := blk_frozen h.cells i
end
/-! ### Size, ask -/
set_option maxHeartbeats 400000 in
set_option maxRecDepth 100000 in
theorem Size_at {S : Nat → Prop} {g gb cap : Nat} {vq : Value} {d : Dm} {w : World} (h : DiskAt w S g gb cap vq d) :
    Calls Try.prog 62 #[.pointer (some ⟨g, 0, none⟩)] w fun e w' => e = .returned (.int .i64 d.b.length) ∧ w = w' := by
  obtain ⟨h0, h1, h2, h3⟩ := h.at_
  have hl := h.ok.lo
  have hh := h.ok.hi
  clear h h1 h2 h3
  go_enter Try.func62, Try.ntmps62
  go_wp2_with fail
  go_ret
  exact ⟨rfl, rfl⟩
set_option maxHeartbeats 400000 in
set_option maxRecDepth 100000 in
theorem Size_nil (w : World) : Calls Try.prog 62 #[.pointer none] w fun e w' => e = .returned (.int .i64 0) ∧ w = w' := by
  go_enter Try.func62, Try.ntmps62
  go_wp2_with fail
  go_ret
  exact ⟨rfl, rfl⟩
set_option maxHeartbeats 400000 in
set_option maxRecDepth 100000 in
theorem ask_nil (p n : Int) (w : World) : Calls Try.prog 60 #[.pointer none, .int .i64 p, .int .i64 n] w fun e w' => e = .returned (.int .i64 6) ∧ w = w' := by
  go_enter Try.func60, Try.ntmps60
  go_wp2_with (go_at_call 62; refine (Size_nil _).mono ?_; rintro e w' ⟨rfl, rfl⟩)
  go_ret
  exact ⟨rfl, rfl⟩
set_option maxHeartbeats 400000 in
set_option maxRecDepth 100000 in
theorem ask_yes {S : Nat → Prop} {g gb cap : Nat} {vq : Value} {d : Dm} {w : World} (h : DiskAt w S g gb cap vq d) (p n : Int) (hf : d.fits p n) :
    Calls Try.prog 60 #[.pointer (some ⟨g, 0, none⟩), .int .i64 p, .int .i64 n] w fun e w' => e = .returned (.int .i64 0) ∧ w = w' := by
  have H := Aside0.mk h
  obtain ⟨h0, h1, h2, h3⟩ := h.at_
  have hl := h.ok.lo
  have hh := h.ok.hi
  obtain ⟨f0, f1, f2⟩ := hf
  have e0 : ((d.b.length : Int) == 0) = false := beq_eq_false_iff_ne.mpr (by omega)
  clear h h1 h2 h3
  go_enter Try.func60, Try.ntmps60
  go_wp2_with (go_at_call 62; refine (Size_at H.out).mono ?_; rintro e w' ⟨rfl, rfl⟩)
  go_ret
  exact ⟨rfl, rfl⟩
set_option maxHeartbeats 800000 in
set_option maxRecDepth 100000 in
theorem ask_no {S : Nat → Prop} {g gb cap : Nat} {vq : Value} {d : Dm} {w : World} (h : DiskAt w S g gb cap vq d) (p n : Int) (hf : ¬ d.fits p n) :
    Calls Try.prog 60 #[.pointer (some ⟨g, 0, none⟩), .int .i64 p, .int .i64 n] w fun e w' => e = .returned (.int .i64 1) ∧ w = w' := by
  have H := Aside0.mk h
  obtain ⟨h0, h1, h2, h3⟩ := h.at_
  have hl := h.ok.lo
  have hh := h.ok.hi
  unfold Dm.fits at hf
  have e0 : ((d.b.length : Int) == 0) = false := beq_eq_false_iff_ne.mpr (by omega)
  clear h h1 h2 h3
  by_cases c1 : p < 0
  · clear hf
    go_enter Try.func60, Try.ntmps60
    go_wp2_with (go_at_call 62; refine (Size_at H.out).mono ?_; rintro e w' ⟨rfl, rfl⟩)
    go_ret
    exact ⟨rfl, rfl⟩
  by_cases c2 : n < 0
  · clear hf
    go_enter Try.func60, Try.ntmps60
    go_wp2_with (go_at_call 62; refine (Size_at H.out).mono ?_; rintro e w' ⟨rfl, rfl⟩)
    go_ret
    exact ⟨rfl, rfl⟩
  by_cases c3 : (d.b.length : Int) < p
  · clear hf
    go_enter Try.func60, Try.ntmps60
    go_wp2_with (go_at_call 62; refine (Size_at H.out).mono ?_; rintro e w' ⟨rfl, rfl⟩)
    go_ret
    exact ⟨rfl, rfl⟩
  have c4 : (d.b.length : Int) - p < n := by omega
  clear hf
  go_enter Try.func60, Try.ntmps60
  go_wp2_with (go_at_call 62; refine (Size_at H.out).mono ?_; rintro e w' ⟨rfl, rfl⟩)
  go_ret
  exact ⟨rfl, rfl⟩
end Go.Proofs.Ytmbemlpmfklddaa.Own
