/- Slices of slices of bytes that a call puts together, and cuts of bytes. A disk as plain lists: what it has, the writes that wait; a write, what is read, a crash, a flush. What a call may turn: the blocks of S and what is new; a disk in memory. The disk of the program, in memory: New, Waits, slices.Clone. (*Disk).Write in memory; what it and Read answer where they do nothing. The iterator of a disk's waiting bytes. (*Disk).settle in memory: a range over a function. copy into bytes of the call's own; what is read, behind one more write. (*Disk).Read in memory. The disk's methods in memory: Crash, Flush, Counts; all of them at a disk. Things in memory side by side, each in blocks of its own: a call that turns one of them leaves the others. -/
import Derived.Test.YtmapdfommjcebaaGreatBas
import Derived.RowKit
import Derived.Deep.DeepMust
import Derived.Lib.SliceRun
import Derived.Deep.RegionLaw
import Derived.RangeFuncNested
import Derived.RangeFuncBound
import Derived.RangeFuncCalls
import Derived.RangeFuncLeaves
import Derived.RangeFuncWrites
import Derived.WalkKit
import Derived.OwnWalkIn
import Derived.TacticsInMore
import Derived.LoopNIn
import Derived.LoopIn
import Derived.Deep.QuietTactic
import Derived.BigQuiet
import Derived.Laws.CopyOwn
import Derived.RegionTactic
import Derived.BigRegion
import Derived.IntWalk
namespace Go.Proofs.YtmapdfommjcebaaGreat.Own
open Go.RowKit Go.Proofs.YtmapdfommjcebaaGreatW.PrintWords Go.Proofs.YtmapdfommjcebaaGreatW.PrintLast Go.Proofs.YtmapdfommjcebaaGreatW.PrintMore
theorem info22 : (Tryz.prog.info? 29).map (fun i => (i.zero, i.size, i.bytes)) = some (some (.slice none 0 0), 1, 24) := by kernel_rfl
/-- Bytes of a length, as a kind. -/
abbrev BL := Kd.slice 5 (Kd.int .u8)
section
variable {ops : Array Oper} {rest : List Oper} {o : Oper} {a : Act} {Q : Exit → Act → World → Prop}
theorem app_slice {w0 W : World} (base : Nat) (hgd : o.guard = none) (s x : Operand) (ho : o.op = .call { callee := .builtin .append, args := #[s, x], argTypes := #[23, 23] })
    (v : Value) (L : List (List Int)) (l : List Int) (A : Option Addr) (c : Nat) (ok okp : Nat → Prop) (hs : a.eval s = v) (hx : a.eval x = .slice (some ⟨W.heap.size, 0, none⟩) 1 1)
    (hc : l.length ≤ c) (hF : Kd.F (Kd.int .u8) W okp A l.length l) (hokp : ∀ k, okp k → ok k ∧ some k ≠ v.ownBlock) (hfresh : ∀ k, W.heap.size ≤ k → ok k)
    (HO : Kd.N BL 29 W base ok v L) (HB : Below base w0 W) (hbase : base ≤ W.heap.size) (hl : L.length + 1 ≤ 5000000000000)
    (h : ∀ v1 w1, Kd.N BL 29 w1 base ok v1 (L ++ [l]) → Below base w0 w1 → W.grownBy w1 v.ownBlock → (v1.ownBlock = v.ownBlock ∨ ∃ b, v1.ownBlock = some b ∧ W.heap.size ≤ b) → wpList Tryz.prog ops Q rest (a.put o.dst v1) w1) :
    wpList Tryz.prog ops Q (o :: rest) a (W.alloc (.cells #[.slice A l.length c] 29)) :=
  Kd.N_append BL base hgd s x 23 29 (.slice none 0 0) 24 ho Tryz.underlying23 info22 rfl (by decide) (by omega) v L l [.slice A l.length c] ok okp hs hx (Kd.FK_slice_mk hc hF) hokp hfresh HO HB hbase (by omega) h
end
theorem run_take (A : Option Addr) (n c : Nat) (m : Int) (h0 : 0 ≤ m) (hm : m ≤ n) (hc : n ≤ c) :
    ∀ W : World, (Instr.slice 29 (.slice A n c) none (some (.int .i64 m)) none).run Tryz.prog W = .ok (.slice A m.toNat c) W := by
  obtain ⟨i0, hi, hzz⟩ := Option.map_eq_some_iff.1 info5
  exact cut_to 29 5 .i64 Tryz.underlying29 hi A n c m h0 hm hc
theorem run_drop (A : Option Addr) (n c : Nat) (m : Int) (h0 : 0 ≤ m) (hm : m ≤ n) :
    ∀ W : World, (Instr.slice 29 (.slice A n c) (some (.int .i64 m)) none none).run Tryz.prog W = .ok (.slice (if c = m.toNat then A else A.map (·.add (m.toNat * 1))) (n - m.toNat) (c - m.toNat)) W := by
  obtain ⟨i0, hi, hzz⟩ := Option.map_eq_some_iff.1 info5
  simp only [Prod.mk.injEq] at hzz
  exact cut_from 29 5 .i64 Tryz.underlying29 hi 1 hzz.2.1 A n c m h0 hm
end Go.Proofs.YtmapdfommjcebaaGreat.Own
namespace Go.Proofs.YtmapdfommjcebaaGreat.Own
open Go.RowKit
/-- A disk: its bytes, the writes that wait, two counts. -/
structure Dm where
  b : List Int
  q : List (Int × List Int)
  fl : Int
  wr : Int
def splice (b : List Int) (p : Nat) (l : List Int) : List Int := b.take p ++ l ++ b.drop (p + l.length)
/-- What waits, byte by byte, with its place. -/
def pendOf (w : Int × List Int) : List (Nat × Int) := w.2.zipIdx.map fun c => (w.1.toNat + c.2, c.1)
def pend (q : List (Int × List Int)) : List (Nat × Int) := q.flatMap pendOf
def putAll (b : List Int) (l : List (Nat × Int)) : List Int := l.foldl (fun b p => b.set p.1 p.2) b
namespace Dm
def new (n : Nat) : Dm := ⟨List.replicate n 0, [], 0, 0⟩
def fits (d : Dm) (p n : Int) : Prop := 0 ≤ p ∧ 0 ≤ n ∧ p + n ≤ d.b.length
instance (d : Dm) (p n : Int) : Decidable (d.fits p n) := by unfold fits; infer_instance
def write (d : Dm) (p : Int) (l : List Int) : Dm := { d with q := d.q ++ [(p, l)], wr := wrap64 (d.wr + l.length) }
def now (d : Dm) : List Int := d.q.foldl (fun b w => splice b w.1.toNat w.2) d.b
def read (d : Dm) (p n : Nat) : List Int := (d.now.drop p).take n
def settle (d : Dm) (last : Int) : Dm := { d with b := putAll d.b ((pend d.q).take last.toNat), q := [] }
def waits (d : Dm) : Nat := (d.q.map fun w => w.2.length).sum
def flush (d : Dm) : Dm := { d with b := d.now, q := [], fl := wrap64 (d.fl + 1) }
/-- Each write fits; the disk is of a size that may be. -/
structure Ok (d : Dm) : Prop where
  lo : 64 ≤ d.b.length
  hi : d.b.length ≤ 262144
  fit : ∀ w ∈ d.q, 0 ≤ w.1 ∧ w.1 + w.2.length ≤ d.b.length
end Dm
theorem putAll_length (l : List (Nat × Int)) : ∀ b : List Int, (putAll b l).length = b.length := by
  induction l with
  | nil => intro b; rfl
  | cons p l ih => intro b; show (putAll (b.set p.1 p.2) l).length = _; rw [ih, List.length_set]
theorem putAll_append (b : List Int) (l m : List (Nat × Int)) : putAll b (l ++ m) = putAll (putAll b l) m := by simp [putAll]
theorem pendOf_length (w : Int × List Int) : (pendOf w).length = w.2.length := by simp [pendOf]
theorem pend_append (q r : List (Int × List Int)) : pend (q ++ r) = pend q ++ pend r := by simp [pend]
theorem pend_length (q : List (Int × List Int)) : (pend q).length = (q.map fun w => w.2.length).sum := by
  induction q with
  | nil => rfl
  | cons w q ih =>
    show (pendOf w ++ pend q).length = _
    rw [List.length_append, pendOf_length, ih]
    simp
theorem splice_length {b : List Int} {p : Nat} {l : List Int} (h : p + l.length ≤ b.length) : (splice b p l).length = b.length := by
  simp [splice]; omega
theorem putAll_shift (l : List Int) : ∀ (b : List Int) (p k : Nat), p + k + l.length ≤ b.length →
    putAll b ((l.zipIdx k).map fun c => (p + c.2, c.1)) = splice b (p + k) l := by
  induction l with
  | nil => intro b p k _; simp [putAll, splice]
  | cons c l ih =>
    intro b p k h
    rw [List.length_cons] at h
    rw [List.zipIdx_cons, List.map_cons]
    show putAll (b.set (p + k) c) ((l.zipIdx (k + 1)).map fun c => (p + c.2, c.1)) = _
    rw [ih _ _ _ (by rw [List.length_set]; omega)]
    unfold splice
    have h1 : (b.set (p + k) c).take (p + (k + 1)) = b.take (p + k) ++ [c] := by
      rw [List.set_eq_take_append_cons_drop, if_pos (by omega), show p + (k + 1) = (b.take (p + k)).length + 1 by rw [List.length_take]; omega, List.take_length_add_append]
      simp
    rw [h1, List.drop_set_of_lt (by omega)]
    simp [Nat.add_assoc, Nat.add_comm 1]
theorem putAll_pendOf {b : List Int} {w : Int × List Int} (h : w.1.toNat + w.2.length ≤ b.length) : putAll b (pendOf w) = splice b w.1.toNat w.2 := by
  have := putAll_shift w.2 b w.1.toNat 0 (by omega)
  simpa [pendOf] using this
theorem now_put (q : List (Int × List Int)) : ∀ b : List Int, (∀ w ∈ q, 0 ≤ w.1 ∧ w.1 + w.2.length ≤ b.length) → q.foldl (fun b w => splice b w.1.toNat w.2) b = putAll b (pend q) := by
  induction q with
  | nil => intro b _; rfl
  | cons w q ih =>
    intro b h
    have hw := h w (by simp)
    have hl : w.1.toNat + w.2.length ≤ b.length := by omega
    show (q.foldl (fun b w => splice b w.1.toNat w.2) (splice b w.1.toNat w.2)) = putAll b (pendOf w ++ pend q)
    rw [putAll_append, putAll_pendOf hl]
    exact ih _ (fun v hv => by rw [splice_length hl]; exact h v (List.mem_cons_of_mem _ hv))
namespace Dm
theorem now_eq {d : Dm} (h : d.Ok) : d.now = putAll d.b (pend d.q) := now_put d.q d.b h.fit
theorem now_length {d : Dm} (h : d.Ok) : d.now.length = d.b.length := by rw [now_eq h, putAll_length]
theorem ok_new {n : Nat} (h : 64 ≤ n) (h' : n ≤ 262144) : (new n).Ok := ⟨by simpa [new] using h, by simpa [new] using h', by simp [new]⟩
theorem ok_write {d : Dm} (h : d.Ok) {p : Int} {l : List Int} (hf : d.fits p l.length) : (d.write p l).Ok :=
  ⟨h.lo, h.hi, fun w hw => by
    rcases List.mem_append.1 hw with hw | hw
    · exact h.fit w hw
    · obtain rfl := List.mem_singleton.1 hw
      exact ⟨hf.1, hf.2.2⟩⟩
theorem ok_settle {d : Dm} (h : d.Ok) (last : Int) : (d.settle last).Ok :=
  ⟨by simp only [settle, putAll_length]; exact h.lo, by simp only [settle, putAll_length]; exact h.hi, by simp [settle]⟩
theorem ok_flush {d : Dm} (h : d.Ok) : d.flush.Ok :=
  ⟨by simp only [flush, now_length h]; exact h.lo, by simp only [flush, now_length h]; exact h.hi, by simp [flush]⟩
theorem settle_all {d : Dm} (h : d.Ok) {last : Int} (hl : (d.waits : Int) ≤ last) : (d.settle last).b = d.now := by
  rw [now_eq h]
  simp only [settle]
  rw [List.take_of_length_le]
  rw [pend_length]
  unfold waits at hl
  omega
end Dm
end Go.Proofs.YtmapdfommjcebaaGreat.Own
namespace Go.Proofs.YtmapdfommjcebaaGreat.Own
open Go.RowKit Go.Proofs.YtmapdfommjcebaaGreatW.PrintWords Go.Proofs.YtmapdfommjcebaaGreatW.PrintLast Go.Proofs.YtmapdfommjcebaaGreatW.PrintMore
/-- Of what was there only blocks of S may have turned. -/
structure Chg (S : Nat → Prop) (w w' : World) : Prop where
  os : w'.os = w.os
  tape : w'.tape = w.tape
  output : w'.output = w.output
  size : w.heap.size ≤ w'.heap.size
  block : ∀ k, k < w.heap.size → ¬ S k → w'.heap[k]? = w.heap[k]?
section
variable {S T : Nat → Prop} {w w1 w2 : World}
theorem Chg.refl (S : Nat → Prop) (w : World) : Chg S w w := ⟨rfl, rfl, rfl, Nat.le_refl _, fun _ _ _ => rfl⟩
theorem Chg.of_below (S : Nat → Prop) (h : Below w.heap.size w w1) : Chg S w w1 := ⟨h.os, h.tape, h.output, h.size, fun k hk _ => h.block k hk⟩
theorem Chg.mono (h : Chg S w w1) (hs : ∀ k, k < w.heap.size → S k → T k) : Chg T w w1 := ⟨h.os, h.tape, h.output, h.size, fun k hk hn => h.block k hk (fun hS => hn (hs k hk hS))⟩
theorem Chg.then_ (h : Chg S w w1) (k : Chg T w1 w2) (hs : ∀ k, T k → S k ∨ w.heap.size ≤ k) : Chg S w w2 :=
  ⟨k.os.trans h.os, k.tape.trans h.tape, k.output.trans h.output, Nat.le_trans h.size k.size, fun i hi hn => (k.block i (Nat.lt_of_lt_of_le hi h.size) (fun h2 => (hs i h2).elim hn (fun h3 => by omega))).trans (h.block i hi hn)⟩
theorem Chg.below (h : Chg S w w1) (hb : Below w1.heap.size w1 w2) : Chg S w w2 := h.then_ (Chg.of_below (fun _ => False) hb) (fun _ hk => hk.elim)
theorem Chg.alloc (h : Chg S w w1) (o : Obj) : Chg S w (w1.alloc o) := h.below (below_alloc (Below.refl _ _) o)
theorem Chg.drew (h : Chg S w w1) : Chg S w w1.drew := ⟨h.os, h.tape, h.output, h.size, h.block⟩
theorem Chg.drewN (h : Chg S w w1) (n : Nat) : Chg S w (w1.drewN n) := ⟨h.os, h.tape, h.output, h.size, h.block⟩
theorem Chg.from_drew (h : Chg S w.drew w1) : Chg S w w1 := ⟨h.os, h.tape, h.output, h.size, h.block⟩
theorem Chg.setCell (h : Chg S w w1) {p : Addr} (hp : S p.block ∨ w.heap.size ≤ p.block) (u : Value) : Chg S w (w1.setCell p u) :=
  h.then_ (T := fun k => k = p.block) ⟨rfl, rfl, rfl, by simp [World.setCell], fun i _ hn => Below.heap_setCell w1 p u i hn⟩ (fun k hk => by rw [hk]; exact hp)
theorem Chg.grown {row : Option Nat} (h : Chg S w w1) (hg : w1.grownBy w2 row) (hr : ∀ k, row = some k → S k ∨ w.heap.size ≤ k) : Chg S w w2 :=
  h.then_ (T := fun k => row = some k) ⟨hg.os, hg.tape, hg.output, hg.size, fun i hi hn => hg.block i hi (fun he => hn he.symm)⟩ hr
/-- What a call may turn lies from B on: below B all is as it was. -/
theorem Chg.toBelow {B : Nat} {w0 : World} (hb : Below B w0 w) (h : Chg S w w1) (hB : B ≤ w.heap.size) (hs : ∀ k, S k → B ≤ k) : Below B w0 w1 :=
  hb.trans ⟨h.os, h.tape, h.output, h.size, fun k hk => h.block k (by omega) (fun hS => by have := hs k hS; omega)⟩
theorem Chg.below_none (h : Chg (fun _ => False) w w1) : Below w.heap.size w w1 := ⟨h.os, h.tape, h.output, h.size, fun k hk => h.block k hk (fun hf => hf)⟩
theorem Chg.blk (h : Chg S w w1) {g : Nat} {o : Obj} (hb : w.heap[g]? = some o) (hg : ¬ S g) : w1.heap[g]? = some o := (h.block g (blk_lt hb) hg).trans hb
theorem OwnB.chg {base : Nat} {v : Value} {xs : List Int} (h : OwnB w base v xs) (hc : Chg S w w1) (hne : ∀ k, v.ownBlock = some k → ¬ S k) : OwnB w1 base v xs :=
  own_move h (fun k hk => hc.block k (own_lt h k hk) (hne k hk))
theorem OwnB.lower {base base' : Nat} {v : Value} {xs : List Int} (h : OwnB w base v xs) (hb : base' ≤ base) : OwnB w base' v xs := own_weaken h hb
theorem F_chg {α : Type} {d : Kd α} {ok : Nat → Prop} {A : Option Addr} {n : Nat} {xs : List α} (h : Kd.F d w ok A n xs) (hc : Chg S w w1) (hok : ∀ k, ok k → ¬ S k) : Kd.F d w1 ok A n xs :=
  Kd.F_step h (fun k hk hlt => hc.block k hlt (hok k hk))
theorem N_chg {α : Type} {d : Kd α} {e base : Nat} {ok : Nat → Prop} {v : Value} {xs : List α} (h : Kd.N d e w base ok v xs) (hc : Chg S w w1) (hok : ∀ k, ok k → ¬ S k) : Kd.N d e w1 base ok v xs :=
  Kd.N_step h (fun k hk hlt => hc.block k hlt (hok k hk))
end

/-- A write that waits, as a kind: a place, and bytes. -/
abbrev WK : Kd (Int × List Int) := Kd.pair (Kd.int .i64) BL
theorem info114 : (Tryz.prog.info? 133).map (fun i => (i.zero, i.size, i.bytes)) = some (some (.agg #[.int .i64 0, .slice none 0 0]), 2, 32) := by kernel_rfl
/-- A disk in memory, at block g: its own blocks are of S. -/
structure DiskAt (w : World) (S : Nat → Prop) (g gb cap : Nat) (vq : Value) (d : Dm) : Prop where
  cells : w.heap[g]? = some (.cells #[.slice (some ⟨gb, 0, none⟩) d.b.length cap, vq, .int .i64 d.fl, .int .i64 d.wr] 93 (0, 0))
  bytes : OwnB w 0 (.slice (some ⟨gb, 0, none⟩) d.b.length cap) d.b
  queue : Kd.N WK 133 w 0 (fun k => S k ∧ k ≠ g ∧ k ≠ gb) vq d.q
  ok : d.Ok
  inG : S g
  inB : S gb
  ne : g ≠ gb
  lt : ∀ k, S k → k < w.heap.size
def IsDisk (w : World) (S : Nat → Prop) (g : Nat) (d : Dm) : Prop := ∃ gb cap vq, DiskAt w S g gb cap vq d
section
variable {S T : Nat → Prop} {w w1 : World} {g gb cap : Nat} {vq : Value} {d : Dm}
theorem DiskAt.chg (h : DiskAt w S g gb cap vq d) (hc : Chg T w w1) (hne : ∀ k, S k → ¬ T k) : DiskAt w1 S g gb cap vq d :=
  ⟨hc.blk h.cells (hne g h.inG), h.bytes.chg hc (fun k hk => by simp [Value.ownBlock] at hk; subst hk; exact hne _ h.inB), N_chg h.queue hc (fun k hk => hne k hk.1), h.ok, h.inG, h.inB, h.ne, fun k hk => Nat.lt_of_lt_of_le (h.lt k hk) hc.size⟩
theorem IsDisk.chg (h : IsDisk w S g d) (hc : Chg T w w1) (hne : ∀ k, S k → ¬ T k) : IsDisk w1 S g d := by
  obtain ⟨gb, cap, vq, h⟩ := h
  exact ⟨gb, cap, vq, h.chg hc hne⟩
theorem IsDisk.below (h : IsDisk w S g d) (hb : Below w.heap.size w w1) : IsDisk w1 S g d := h.chg (Chg.of_below (fun _ => False) hb) (fun _ _ hf => hf)
theorem IsDisk.ok (h : IsDisk w S g d) : d.Ok := by obtain ⟨_, _, _, h⟩ := h; exact h.ok
theorem IsDisk.lt (h : IsDisk w S g d) : ∀ k, S k → k < w.heap.size := by obtain ⟨_, _, _, h⟩ := h; exact h.lt
theorem IsDisk.inG (h : IsDisk w S g d) : S g := by obtain ⟨_, _, _, h⟩ := h; exact h.inG
theorem DiskAt.drew (h : DiskAt w S g gb cap vq d) : DiskAt w.drew S g gb cap vq d := h.chg (Chg.refl (fun _ => False) w).drew (fun _ _ hf => hf)
/-- The four cells, as the walk asks for them. -/
theorem DiskAt.at_ (h : DiskAt w S g gb cap vq d) : w.cell? ⟨g, 0, none⟩ = some (.slice (some ⟨gb, 0, none⟩) d.b.length cap) ∧ w.cell? ⟨g, 1, none⟩ = some vq ∧ w.cell? ⟨g, 2, none⟩ = some (.int .i64 d.fl) ∧ w.cell? ⟨g, 3, none⟩ = some (.int .i64 d.wr) := by
  refine ⟨?_, ?_, ?_, ?_⟩ <;> rw [blk_cell h.cells] <;> rfl
theorem DiskAt.free (h : DiskAt w S g gb cap vq d) (i : Nat) : w.frozen? ⟨g, i, none⟩ = false := blk_frozen h.cells i
end
/-! ### Size, ask -/
set_option maxHeartbeats 400000 in
set_option maxRecDepth 100000 in
theorem Size_at {S : Nat → Prop} {g gb cap : Nat} {vq : Value} {d : Dm} {w : World} (h : DiskAt w S g gb cap vq d) :
    Calls Tryz.prog 39 #[.pointer (some ⟨g, 0, none⟩)] w fun e w' => e = .returned (.int .i64 d.b.length) ∧ w = w' := by
  obtain ⟨h0, h1, h2, h3⟩ := h.at_
  have hl := h.ok.lo
  have hh := h.ok.hi
  clear h h1 h2 h3
  go_enter Tryz.func39, Tryz.ntmps39
  go_wp2_with fail
  go_ret
  exact ⟨rfl, rfl⟩
set_option maxHeartbeats 400000 in
set_option maxRecDepth 100000 in
theorem Size_nil (w : World) : Calls Tryz.prog 39 #[.pointer none] w fun e w' => e = .returned (.int .i64 0) ∧ w = w' := by
  go_enter Tryz.func39, Tryz.ntmps39
  go_wp2_with fail
  go_ret
  exact ⟨rfl, rfl⟩
set_option maxHeartbeats 400000 in
set_option maxRecDepth 100000 in
theorem ask_nil (p n : Int) (w : World) : Calls Tryz.prog 60 #[.pointer none, .int .i64 p, .int .i64 n] w fun e w' => e = .returned (.int .i64 6) ∧ w = w' := by
  go_enter Tryz.func60, Tryz.ntmps60
  go_wp2_with (go_at_call 39; refine (Size_nil _).mono ?_; rintro e w' ⟨rfl, rfl⟩)
  go_ret
  exact ⟨rfl, rfl⟩
set_option maxHeartbeats 400000 in
set_option maxRecDepth 100000 in
theorem ask_yes {S : Nat → Prop} {g gb cap : Nat} {vq : Value} {d : Dm} {w : World} (h : DiskAt w S g gb cap vq d) (p n : Int) (hf : d.fits p n) :
    Calls Tryz.prog 60 #[.pointer (some ⟨g, 0, none⟩), .int .i64 p, .int .i64 n] w fun e w' => e = .returned (.int .i64 0) ∧ w = w' := by
  have H := Aside0.mk h
  obtain ⟨h0, h1, h2, h3⟩ := h.at_
  have hl := h.ok.lo
  have hh := h.ok.hi
  obtain ⟨f0, f1, f2⟩ := hf
  have e0 : ((d.b.length : Int) == 0) = false := beq_eq_false_iff_ne.mpr (by omega)
  clear h h1 h2 h3
  go_enter Tryz.func60, Tryz.ntmps60
  go_wp2_with (go_at_call 39; refine (Size_at H.out).mono ?_; rintro e w' ⟨rfl, rfl⟩)
  go_ret
  exact ⟨rfl, rfl⟩
set_option maxHeartbeats 800000 in
set_option maxRecDepth 100000 in
theorem ask_no {S : Nat → Prop} {g gb cap : Nat} {vq : Value} {d : Dm} {w : World} (h : DiskAt w S g gb cap vq d) (p n : Int) (hf : ¬ d.fits p n) :
    Calls Tryz.prog 60 #[.pointer (some ⟨g, 0, none⟩), .int .i64 p, .int .i64 n] w fun e w' => e = .returned (.int .i64 1) ∧ w = w' := by
  have H := Aside0.mk h
  obtain ⟨h0, h1, h2, h3⟩ := h.at_
  have hl := h.ok.lo
  have hh := h.ok.hi
  unfold Dm.fits at hf
  have e0 : ((d.b.length : Int) == 0) = false := beq_eq_false_iff_ne.mpr (by omega)
  clear h h1 h2 h3
  by_cases c1 : p < 0
  · clear hf
    go_enter Tryz.func60, Tryz.ntmps60
    go_wp2_with (go_at_call 39; refine (Size_at H.out).mono ?_; rintro e w' ⟨rfl, rfl⟩)
    go_ret
    exact ⟨rfl, rfl⟩
  by_cases c2 : n < 0
  · clear hf
    go_enter Tryz.func60, Tryz.ntmps60
    go_wp2_with (go_at_call 39; refine (Size_at H.out).mono ?_; rintro e w' ⟨rfl, rfl⟩)
    go_ret
    exact ⟨rfl, rfl⟩
  by_cases c3 : (d.b.length : Int) < p
  · clear hf
    go_enter Tryz.func60, Tryz.ntmps60
    go_wp2_with (go_at_call 39; refine (Size_at H.out).mono ?_; rintro e w' ⟨rfl, rfl⟩)
    go_ret
    exact ⟨rfl, rfl⟩
  have c4 : (d.b.length : Int) - p < n := by omega
  clear hf
  go_enter Tryz.func60, Tryz.ntmps60
  go_wp2_with (go_at_call 39; refine (Size_at H.out).mono ?_; rintro e w' ⟨rfl, rfl⟩)
  go_ret
  exact ⟨rfl, rfl⟩
end Go.Proofs.YtmapdfommjcebaaGreat.Own
namespace Go.Proofs.YtmapdfommjcebaaGreat.Own
open Go.RowKit Go.Proofs.YtmapdfommjcebaaGreatW.PrintWords Go.Proofs.YtmapdfommjcebaaGreatW.PrintLast Go.Proofs.YtmapdfommjcebaaGreatW.PrintMore
set_option maxHeartbeats 400000 in
set_option maxRecDepth 100000 in
theorem Clone_calls (A : Option Addr) (c : Nat) (l : List Int) (w : World) (h : (Kd.int .u8).C w A l.length l) (hl : l.length ≤ 140737488355328) :
    Calls Tryz.prog 55 #[.slice A l.length c] w fun e w' => ∃ v, e = .returned v ∧ OwnB w' w.heap.size v l ∧ Below w.heap.size w w' := by
  have H := Aside0.mk h
  have HB := Aside0.mk (Below.refl w.heap.size w)
  rcases A with _ | a
  · have h0 : l = [] := by
      rcases l with _ | ⟨x, l⟩
      · rfl
      · obtain ⟨ad, he, _⟩ := h.2.2 (by simp)
        cases he
    subst h0
    clear h H HB
    have hnil := fun (W : World) (a : Option Addr) (n c : Nat) => Lib.run_eql_slice_nil (P := Tryz.prog) W 29 5 a n c 0 0 Tryz.underlying29
    go_enter Tryz.func55, Tryz.ntmps55
    go_wp2_with fail
    go_ret
    exact ⟨_, rfl, own_nil _ _ _ _, Below.refl _ _⟩
  · clear h
    have hnil := fun (W : World) (a : Option Addr) (n c : Nat) => Lib.run_eql_slice_nil (P := Tryz.prog) W 29 5 a n c 0 0 Tryz.underlying29
    go_enter Tryz.func55, Tryz.ntmps55
    go_wp2_with (at_builtin; go_must (refine app_bytes w.heap.size rfl (.tmp 5) (.tmp 6) rfl _ [] l _ l.length c rfl rfl rfl (own_empty _ _ (Nat.le_refl _)) (Kd.C_below H.out (below_alloc (Below.refl _ _) _)) (below_alloc HB.out _) (below_alloc HB.out _).size (by simp; omega) ?_); intro v1 w1 O1 B1' G1; clear G1 HB; have HO := Aside0.mk O1; have HB := Aside0.mk B1'; clear O1 B1')
    go_ret
    exact ⟨v1, rfl, HO.out, HB.out⟩
set_option maxHeartbeats 400000 in
set_option maxRecDepth 100000 in
theorem New_yes (n : Nat) (w : World) (h1 : 64 ≤ n) (h2 : n ≤ 262144) :
    Calls Tryz.prog 13 #[.int .i64 n] w fun e w' => ∃ g S, e = .returned (.tuple #[.pointer (some ⟨g, 0, none⟩), .int .i64 0]) ∧ IsDisk w' S g (Dm.new n) ∧ (∀ k, S k → w.heap.size ≤ k) ∧ Below w.heap.size w w' := by
  have hmk := print_make (P := Tryz.prog) 29 5 .u8 1 Tryz.underlying29 info5 (by omega) n (by omega)
  go_enter Tryz.func13, Tryz.ntmps13
  go_wp2_with fail
  go_ret2
  have hb1 := below_alloc (Below.refl w.heap.size w) (.cells (madeCells #[Value.int IntKind.u8 0] n) 5)
  have hz : (w.alloc (Obj.cells (madeCells #[Value.int IntKind.u8 0] n) 5)).heap.size = w.heap.size + 1 := by simp
  refine ⟨w.heap.size + 1, fun k => k = w.heap.size ∨ k = w.heap.size + 1, rfl, ⟨w.heap.size, n, .slice none 0 0, ?_⟩, fun k hk => by omega, below_alloc hb1 _⟩
  have hO : OwnB (w.alloc (Obj.cells (madeCells #[Value.int IntKind.u8 0] n) 5)) 0 (.slice (some ⟨w.heap.size, 0, none⟩) n n) (List.replicate n 0) := by
    have := own_made w 0 5 .u8 n (by omega) (by omega)
    unfold OwnB
    rw [List.length_replicate]
    exact this
  have hlen : (Dm.new n).b.length = n := by simp [Dm.new]
  refine ⟨?_, ?_, Kd.N_nil _ _ _ _ _, Dm.ok_new h1 h2, .inr rfl, .inl rfl, by omega, fun k hk => by simp; omega⟩
  · rw [hlen, ← hz]
    exact heap_alloc_new _ _
  · rw [hlen]
    exact hO.below (below_alloc (Below.refl _ _) _)
theorem New_no (n : Int) (w : World) (h : n < 64 ∨ 262144 < n) :
    Calls Tryz.prog 13 #[.int .i64 n] w fun e w' => e = .returned (.tuple #[.pointer none, .int .i64 1]) ∧ w = w' := by
  by_cases c : n < 64
  · clear h
    go_enter Tryz.func13, Tryz.ntmps13
    go_wp2_with fail
    go_ret2
    exact ⟨rfl, rfl⟩
  · have c2 : 262144 < n := by omega
    clear h
    go_enter Tryz.func13, Tryz.ntmps13
    go_wp2_with fail
    go_ret2
    exact ⟨rfl, rfl⟩
/-- The i-th write that waits, in memory. -/
theorem q_at {w : World} {base : Nat} {ok : Nat → Prop} {ad : Addr} {n c : Nat} {q : List (Int × List Int)} (h : Kd.N WK 133 w base ok (.slice (some ad) n c) q) (k : Nat) (hk : k < q.length) :
    ∃ A c', w.cell? (ad.add (k * 2)) = some (.int .i64 q[k].1) ∧ w.cell? ⟨(ad.add (k * 2)).block, (ad.add (k * 2)).off + 1, none⟩ = some (.slice A q[k].2.length c') ∧ q[k].2.length ≤ c' ∧ Kd.F (Kd.int .u8) w ok A q[k].2.length q[k].2 := by
  obtain ⟨hn, _, _⟩ := Kd.N_reads' h
  have hF := Kd.N_F h
  obtain ⟨ad', cs, he, hcl, hK, hcc, _⟩ := Kd.F_get hF q[k] (k : Int) (by omega) (by omega)
  injection he with he
  subst he
  have hg : q.getD (k : Int).toNat q[k] = q[k] := by simp [List.getD_eq_getElem?_getD, hk]
  rw [hg] at hK
  obtain ⟨c0, c1, rfl, h0, ⟨A, c', rfl, hl, _⟩⟩ := Kd.FK_now hK
  have h0' : c0 = [.int .i64 q[k].1] := h0
  subst h0'
  have hcc' : ∀ j u, ([Value.int .i64 q[k].1] ++ [.slice A q[k].2.length c'])[j]? = some u → w.cell? (ad.add ((k : Int).toNat * 2 + j)) = some u := hcc
  refine ⟨A, c', hcc' 0 _ rfl, ?_, hl, fun W' hW => ?_⟩
  · rw [← add_field _ _ 1 (by omega)]
    exact hcc' 1 _ rfl
  · obtain ⟨d0, d1, he2, g0, ⟨A2, c2, rfl, _, hC⟩⟩ := hK W' hW
    have g0' : d0 = [.int .i64 q[k].1] := g0
    subst g0'
    injection he2 with _ he2
    injection he2 with he2 _
    injection he2 with ha _ _
    subst ha
    exact hC
theorem DiskAt.below {S : Nat → Prop} {w w1 : World} {g gb cap : Nat} {vq : Value} {d : Dm} (h : DiskAt w S g gb cap vq d) (hb : Below w.heap.size w w1) : DiskAt w1 S g gb cap vq d := h.chg (Chg.of_below (fun _ => False) hb) (fun _ _ hf => hf)
theorem sum_le (q : List (Int × List Int)) (m : Nat) (h : ∀ w ∈ q, w.2.length ≤ m) : (q.map fun w => w.2.length).sum ≤ q.length * m := by
  induction q with
  | nil => simp
  | cons w q ih =>
    have h1 := h w (by simp)
    have h2 := ih (fun v hv => h v (List.mem_cons_of_mem _ hv))
    rw [List.map_cons, List.sum_cons, List.length_cons, Nat.add_mul, Nat.one_mul]
    omega
def waitsTo (q : List (Int × List Int)) (k : Nat) : Nat := ((q.take k).map fun w => w.2.length).sum
theorem waitsTo_succ (q : List (Int × List Int)) (k : Nat) (h : k < q.length) : waitsTo q (k + 1) = waitsTo q k + q[k].2.length := by
  unfold waitsTo
  rw [List.take_succ_eq_append_getElem h, List.map_append, List.sum_append]
  simp
theorem q_ptr {w : World} {base : Nat} {ok : Nat → Prop} {A : Option Addr} {n c : Nat} {q : List (Int × List Int)} (h : Kd.N WK 133 w base ok (.slice A n c) q) (hk : 0 < q.length) : ∃ ad, A = some ad := by
  obtain ⟨g, cap, he, _⟩ := Kd.N_form h hk
  injection he with he
  exact ⟨_, he⟩
set_option maxHeartbeats 800000 in
set_option maxRecDepth 100000 in
theorem Waits_at {S : Nat → Prop} {g gb cap : Nat} {vq : Value} {d : Dm} {w : World} (h : DiskAt w S g gb cap vq d) (hq : d.q.length ≤ 1000000) :
    Calls Tryz.prog 62 #[.pointer (some ⟨g, 0, none⟩)] w fun e w' => e = .returned (.int .i64 d.waits) ∧ Below w.heap.size w w' := by
  have H := Aside0.mk h
  have HB := Aside0.mk (Below.refl w.heap.size w)
  obtain ⟨h0, h1, h2, h3⟩ := h.at_
  obtain ⟨A, c, hv⟩ := Kd.N_slice h.queue
  subst hv
  clear h h0 h2 h3
  go_enter Tryz.func62, Tryz.ntmps62
  go_wp2_with fail
  go_loopw [3, 13] (fun v3 v13 wr => ∃ (k : Nat), k ≤ d.q.length ∧ v13 = .int .i64 k ∧ v3 = .int .i64 (waitsTo d.q k) ∧ Aside0 (Below w.heap.size w wr)) (fun _ v13 _ => d.q.length - (intOf v13).toNat)
  case atStart => exact ⟨0, by omega, rfl, rfl, HB⟩
  case round =>
    clear HB
    obtain ⟨k, hk, rfl, rfl, HB⟩ := hrel
    by_cases hlt : k < d.q.length
    · obtain ⟨ad, rfl⟩ := q_ptr H.out.queue (by omega)
      obtain ⟨A2, c2, e1, e2, hl2, _⟩ := q_at (H.out.below HB.out).queue k hlt
      have hs1 := sum_le (d.q.take k) 262144 (fun v hv => by have := H.out.ok.fit v (List.mem_of_mem_take hv); have := H.out.ok.hi; omega)
      have hs2 : (d.q.take k).length ≤ 1000000 := by rw [List.length_take]; omega
      have hs3 : waitsTo d.q k ≤ 1000000 * 262144 := Nat.le_trans hs1 (Nat.mul_le_mul_right _ hs2)
      have hs4 : d.q[k].2.length ≤ 262144 := by have := H.out.ok.fit _ (List.getElem_mem hlt); have := H.out.ok.hi; omega
      have hst := waitsTo_succ d.q k hlt
      generalize hx : waitsTo d.q k = x at hs3 hst ⊢
      generalize d.q[k].2.length = y at hst e2 hs4
      generalize d.q[k].1 = z at e1
      have HX := Aside0.mk hst
      clear hs1 hs2 hst hx hl2
      go_wp2_with fail
      go_roundw
      case rel => exact ⟨k + 1, by omega, by go_num, by rw [HX.out]; go_num, ⟨below_alloc HB.out _⟩⟩
      case measure => simp [intOf]; omega
    · obtain rfl : k = d.q.length := by omega
      go_wp2_with fail
      go_ret
      exact ⟨by unfold waitsTo; rw [List.take_length]; rfl, HB.out⟩
end Go.Proofs.YtmapdfommjcebaaGreat.Own
namespace Go.Proofs.YtmapdfommjcebaaGreat.Own
open Go.RowKit Go.Proofs.YtmapdfommjcebaaGreatW.PrintWords Go.Proofs.YtmapdfommjcebaaGreatW.PrintLast Go.Proofs.YtmapdfommjcebaaGreatW.PrintMore
theorem FK_write {W : World} {base : Nat} {v : Value} {p : Int} {l : List Int} (h : OwnB W base v l) : Kd.FK WK W (fun k => v.ownBlock = some k) (p, l) [.int .i64 p, v] := by
  intro W' hW
  have h2 : OwnB W' base v l := own_move h (fun k hk => hW k hk (own_lt h k hk))
  obtain ⟨A, c, rfl, hl, hC⟩ := h2.slice
  exact ⟨[.int .i64 p], [.slice A l.length c], rfl, rfl, A, c, rfl, hl, hC⟩
section
variable {ops : Array Oper} {o : Oper} {a : Act} {Q : Exit → Act → World → Prop} {Kc : Act → World → Prop}
theorem app_write_step {w0 W : World} (base : Nat) (hw : Region.wanted o (yielded ops a.tmps) = true) (s x : Operand) (ho : o.op = .call { callee := .builtin .append, args := #[s, x], argTypes := #[91, 91] })
    (v : Value) (q : List (Int × List Int)) (p : Int) (l : List Int) (v1 : Value) (b1 : Nat) (ok : Nat → Prop) (hs : a.eval s = v) (hx : a.eval x = .slice (some ⟨W.heap.size, 0, none⟩) 1 1)
    (hO : OwnB W b1 v1 l) (hokp : ∀ k, v1.ownBlock = some k → ok k ∧ some k ≠ v.ownBlock) (hfresh : ∀ k, W.heap.size ≤ k → ok k)
    (HO : Kd.N WK 133 W base ok v q) (HB : Below base w0 W) (hbase : base ≤ W.heap.size) (hl : q.length + 1 ≤ 4000000000000)
    (h : ∀ v1 w1, Kd.N WK 133 w1 base ok v1 (q ++ [(p, l)]) → Below base w0 w1 → W.grownBy w1 v.ownBlock → (v1.ownBlock = v.ownBlock ∨ ∃ b, v1.ownBlock = some b ∧ W.heap.size ≤ b) → Kc (a.put o.dst v1) w1) :
    if Region.wanted o (yielded ops a.tmps) = true then Oper.wp Tryz.prog o a (W.alloc (.cells #[.int .i64 p, v1] 133)) Kc Q else Kc (a.put o.dst undef) (W.alloc (.cells #[.int .i64 p, v1] 133)) :=
  Kd.N_append_step WK base hw s x 91 133 (.agg #[.int .i64 0, .slice none 0 0]) 32 ho Tryz.underlying91 info114 rfl (by decide) (by omega) v q (p, l) [.int .i64 p, v1] ok (fun k => v1.ownBlock = some k) hs hx (FK_write hO) hokp hfresh HO HB hbase (by omega) h
end
section
variable {S : Nat → Prop} {w w1 w2 : World} {g gb cap : Nat} {vq : Value} {d : Dm}
theorem write_ok {l : List Int} {v1 : Value} (h : DiskAt w S g gb cap vq d) (hv : ∀ k, vq.ownBlock = some k → k < w.heap.size) (ho : OwnB w1 w.drew.heap.size v1 l) :
    ∀ k, v1.ownBlock = some k → ((S k ∨ w.heap.size ≤ k) ∧ k ≠ g ∧ k ≠ gb) ∧ some k ≠ vq.ownBlock := by
  intro k hk
  have h1 : w.heap.size ≤ k := own_base ho k hk
  have h2 := h.lt g h.inG
  have h3 := h.lt gb h.inB
  exact ⟨⟨.inr h1, by omega, by omega⟩, fun e => by have := hv k e.symm; omega⟩
theorem write_fresh (h : DiskAt w S g gb cap vq d) (hs : w.heap.size ≤ w1.heap.size) : ∀ k, w1.heap.size ≤ k → (S k ∨ w.heap.size ≤ k) ∧ k ≠ g ∧ k ≠ gb := by
  intro k hk
  have h2 := h.lt g h.inG
  have h3 := h.lt gb h.inB
  exact ⟨.inr (by omega), by omega, by omega⟩
/-- Behind the append: the disk's own block as it was. -/
theorem chg_cells (h : DiskAt w S g gb cap vq d) (_hv : ∀ k, vq.ownBlock = some k → k < w.heap.size) (hc : Chg (fun _ => False) w w1) (hg : w1.grownBy w2 vq.ownBlock) :
    w2.cell? ⟨g, 0, none⟩ = some (.slice (some ⟨gb, 0, none⟩) d.b.length cap) ∧ w2.cell? ⟨g, 1, none⟩ = some vq ∧ w2.cell? ⟨g, 3, none⟩ = some (.int .i64 d.wr) ∧ w2.frozen? ⟨g, 1, none⟩ = false ∧ w2.frozen? ⟨g, 3, none⟩ = false := by
  have hne : some g ≠ vq.ownBlock := Kd.N_ne h.queue h.cells (by decide)
  have hb : w2.heap[g]? = some (.cells #[.slice (some ⟨gb, 0, none⟩) d.b.length cap, vq, .int .i64 d.fl, .int .i64 d.wr] 93 (0, 0)) :=
    (hg.block g (Nat.lt_of_lt_of_le (h.lt g h.inG) hc.size) hne).trans (hc.blk h.cells (fun hf => hf))
  refine ⟨?_, ?_, ?_, blk_frozen hb 1, blk_frozen hb 3⟩ <;> rw [blk_cell hb] <;> rfl
theorem own_in (h : DiskAt w S g gb cap vq d) : ∀ k, vq.ownBlock = some k → S k := fun k hk => (h.queue.1 k hk).1
theorem write_chg {v2 : Value} {y : Int} (h : DiskAt w S g gb cap vq d) (hc : Chg (fun _ => False) w w1) (hg : w1.grownBy w2 vq.ownBlock) :
    Chg S w ((w2.setCell ⟨g, 1, none⟩ v2).setCell ⟨g, 3, none⟩ (.int .i64 y)) :=
  (((hc.mono (T := S) (fun _ _ hf => hf.elim)).grown hg (fun k hk => .inl (own_in h k hk))).setCell (.inl h.inG) _).setCell (.inl h.inG) _
theorem write_done {p : Int} {l : List Int} {v2 : Value} (h : DiskAt w S g gb cap vq d) (hf : d.fits p l.length) (hc : Chg (fun _ => False) w w1) (hg : w1.grownBy w2 vq.ownBlock)
    (hn : Kd.N WK 133 w2 0 (fun k => (S k ∨ w.heap.size ≤ k) ∧ k ≠ g ∧ k ≠ gb) v2 (d.q ++ [(p, l)])) :
    DiskAt ((w2.setCell ⟨g, 1, none⟩ v2).setCell ⟨g, 3, none⟩ (.int .i64 (wrap64 (d.wr + l.length)))) (fun k => S k ∨ (w.heap.size ≤ k ∧ k < ((w2.setCell ⟨g, 1, none⟩ v2).setCell ⟨g, 3, none⟩ (.int .i64 (wrap64 (d.wr + l.length)))).heap.size)) g gb cap v2 (d.write p l) := by
  have hgl := h.lt g h.inG
  have hgbl := h.lt gb h.inB
  have hne : some g ≠ vq.ownBlock := Kd.N_ne h.queue h.cells (by decide)
  have hneb : some gb ≠ vq.ownBlock := fun e => (h.queue.1 gb e.symm).2.2 rfl
  have hb : w2.heap[g]? = some (.cells #[.slice (some ⟨gb, 0, none⟩) d.b.length cap, vq, .int .i64 d.fl, .int .i64 d.wr] 93 (0, 0)) :=
    (hg.block g (Nat.lt_of_lt_of_le hgl hc.size) hne).trans (hc.blk h.cells (fun hf => hf))
  have hsz : w.heap.size ≤ w2.heap.size := Nat.le_trans hc.size hg.size
  have hsize : ((w2.setCell ⟨g, 1, none⟩ v2).setCell ⟨g, 3, none⟩ (.int .i64 (wrap64 (d.wr + l.length)))).heap.size = w2.heap.size := by simp [World.setCell]
  have hB : OwnB w2 0 (.slice (some ⟨gb, 0, none⟩) d.b.length cap) d.b :=
    own_move (h.bytes.chg hc (fun _ _ hf => hf)) (fun k hk => by
      simp [Value.ownBlock] at hk
      subst hk
      exact hg.block _ (Nat.lt_of_lt_of_le hgbl hc.size) hneb)
  refine ⟨?_, ?_, ?_, Dm.ok_write h.ok hf, .inl h.inG, .inl h.inB, h.ne, ?_⟩
  · exact blk_put (blk_set hb 1 v2) 3 _ rfl
  · refine own_move hB (fun k hk => ?_)
    simp [Value.ownBlock] at hk
    subst hk
    rw [Below.heap_setCell _ _ _ _ (by exact fun e => h.ne e.symm), Below.heap_setCell _ _ _ _ (by exact fun e => h.ne e.symm)]
  · refine Kd.N_mono (Kd.N_bound (Kd.N_far (Kd.N_far hn (p := ⟨g, 1, none⟩) (fun k hk => hk.2.1) v2) (p := ⟨g, 3, none⟩) (fun k hk => hk.2.1) _)) (fun k hk => ?_)
    obtain ⟨⟨h1, h2, h3⟩, h4⟩ := hk
    refine ⟨?_, h2, h3⟩
    rcases h1 with h1 | h1
    · exact .inl h1
    · exact .inr ⟨h1, h4⟩
  · intro k hk
    rcases hk with hk | hk
    · rw [hsize]
      exact Nat.lt_of_lt_of_le (h.lt k hk) hsz
    · exact hk.2
end
set_option maxHeartbeats 800000 in
set_option maxRecDepth 100000 in
theorem Write_yes {S : Nat → Prop} {g gb cap : Nat} {vq : Value} {d : Dm} {w : World} (h : DiskAt w S g gb cap vq d) (hq : d.q.length ≤ 1000000) (p : Int) (A : Option Addr) (c : Nat) (l : List Int)
    (hl : (Kd.int .u8).C w A l.length l) (hf : d.fits p l.length) :
    Calls Tryz.prog 30 #[.pointer (some ⟨g, 0, none⟩), .int .i64 p, .slice A l.length c] w fun e w' => e = .returned (.int .i64 0) ∧ (∃ vq', DiskAt w' (fun k => S k ∨ (w.heap.size ≤ k ∧ k < w'.heap.size)) g gb cap vq' (d.write p l)) ∧ Chg S w w' := by
  have H := Aside0.mk h
  have HL := Aside0.mk hl
  have HF := Aside0.mk hf
  have hll := hl.2.1
  have hl2 : l.length ≤ 262144 := by have := hf.2.2; have := hf.1; have := h.ok.hi; omega
  obtain ⟨h0, h1, h2, h3⟩ := h.at_
  have f1 := h.free 1
  have f3 := h.free 3
  have hg := h.lt g h.inG
  have hgb := h.lt gb h.inB
  clear h hl hf
  go_enter Tryz.func30, Tryz.ntmps30
  go_wp2_with (go_at_call 60; go_must (refine (ask_yes H.out p l.length HF.out).mono ?_); rintro e w' ⟨rfl, rfl⟩)
  have HV := Aside0.mk (Kd.N_lt H.out.queue)
  go_region_law (first
    | (refine app_write_step 0 rfl (.tmp 20) (.tmp 25) rfl vq d.q p l _ _ (fun k => (S k ∨ w.heap.size ≤ k) ∧ k ≠ g ∧ k ≠ gb) rfl rfl HO.out HP.out HQ.out HN.out HB.out (Nat.zero_le _) (by omega) ?_; intro v2 w2 hn hb2 hg2 hat2; obtain ⟨A2, c2, rfl⟩ := Kd.N_slice hn; rw [List.length_append, List.length_singleton] at hn; have HN2 := Aside0.mk hn; have HG := Aside0.mk hg2; have H2 := Aside0.mk (chg_cells H.out HV.out HC.out hg2); obtain ⟨k0, k1, k2, k3, k4⟩ := H2.out; clear hn hb2 hg2 hat2)
    | (go_simp; go_at_call 55; go_must (refine (Clone_calls A c l _ (by exact HL.out) (by omega)).mono ?_); go_must (rintro e w1 ⟨v1, rfl, ho, hb⟩; obtain ⟨A1, c1, rfl, hc1, _⟩ := ho.slice; have H1 := Aside0.mk (H.out.drew.below hb); have HO := Aside0.mk ho; have HC := Aside0.mk (Chg.of_below (fun _ => False) hb).from_drew; have HB := Aside0.mk (HC.out.below_none.mono (Nat.zero_le _)); have HP := Aside0.mk (write_ok H.out HV.out HO.out); have HQ := Aside0.mk (write_fresh H.out HC.out.size); have HN := Aside0.mk (Kd.N_mono H1.out.queue (fun k hk => (⟨.inl hk.1, hk.2⟩ : (S k ∨ w.heap.size ≤ k) ∧ k ≠ g ∧ k ≠ gb))); obtain ⟨h0, h1, h2, h3⟩ := H1.out.at_; have f1 := H1.out.free 1; have f3 := H1.out.free 3; have hg1 := H1.out.lt g H1.out.inG; clear ho hb)))
  all_goals
    go_wp2
    go_ret
    refine ⟨rfl, ⟨_, write_done H.out HF.out HC.out HG.out HN2.out⟩, write_chg H.out HC.out HG.out⟩
set_option maxHeartbeats 800000 in
set_option maxRecDepth 100000 in
theorem Write_no {S : Nat → Prop} {g gb cap : Nat} {vq : Value} {d : Dm} {w : World} (h : DiskAt w S g gb cap vq d) (p : Int) (A : Option Addr) (c : Nat) (n : Nat) (_hn : n ≤ 9223372036854775807) (hf : ¬ d.fits p n) :
    Calls Tryz.prog 30 #[.pointer (some ⟨g, 0, none⟩), .int .i64 p, .slice A n c] w fun e w' => e = .returned (.int .i64 1) ∧ w = w' := by
  have H := Aside0.mk h
  have HF := Aside0.mk hf
  clear h hf
  go_enter Tryz.func30, Tryz.ntmps30
  go_wp2_with (go_at_call 60; go_must (refine (ask_no H.out p n HF.out).mono ?_); rintro e w' ⟨rfl, rfl⟩)
  go_ret
  exact ⟨rfl, rfl⟩
set_option maxHeartbeats 800000 in
set_option maxRecDepth 100000 in
theorem Write_nil (p : Int) (A : Option Addr) (c : Nat) (n : Nat) (_hn : n ≤ 9223372036854775807) (w : World) :
    Calls Tryz.prog 30 #[.pointer none, .int .i64 p, .slice A n c] w fun e w' => e = .returned (.int .i64 6) ∧ w = w' := by
  go_enter Tryz.func30, Tryz.ntmps30
  go_wp2_with (go_at_call 60; go_must (refine (ask_nil p n _).mono ?_); rintro e w' ⟨rfl, rfl⟩)
  go_ret
  exact ⟨rfl, rfl⟩
set_option maxHeartbeats 800000 in
set_option maxRecDepth 100000 in
theorem Read_no {S : Nat → Prop} {g gb cap : Nat} {vq : Value} {d : Dm} {w : World} (h : DiskAt w S g gb cap vq d) (p n : Int) (hf : ¬ d.fits p n) :
    Calls Tryz.prog 37 #[.pointer (some ⟨g, 0, none⟩), .int .i64 p, .int .i64 n] w fun e w' => e = .returned (.tuple #[.slice none 0 0, .int .i64 1]) ∧ w = w' := by
  have H := Aside0.mk h
  have HF := Aside0.mk hf
  clear h hf
  go_enter Tryz.func37, Tryz.ntmps37
  go_wp2_with (go_at_call 60; go_must (refine (ask_no H.out p n HF.out).mono ?_); rintro e w' ⟨rfl, rfl⟩)
  go_ret2
  exact ⟨rfl, rfl⟩
set_option maxHeartbeats 800000 in
set_option maxRecDepth 100000 in
theorem Read_nil (p n : Int) (w : World) : Calls Tryz.prog 37 #[.pointer none, .int .i64 p, .int .i64 n] w fun e w' => e = .returned (.tuple #[.slice none 0 0, .int .i64 6]) ∧ w = w' := by
  go_enter Tryz.func37, Tryz.ntmps37
  go_wp2_with (go_at_call 60; go_must (refine (ask_nil p n _).mono ?_); rintro e w' ⟨rfl, rfl⟩)
  go_ret2
  exact ⟨rfl, rfl⟩
end Go.Proofs.YtmapdfommjcebaaGreat.Own
namespace Go.Proofs.YtmapdfommjcebaaGreat.Own
open Go.RowKit Go.Proofs.YtmapdfommjcebaaGreatW.PrintWords Go.Proofs.YtmapdfommjcebaaGreatW.PrintLast Go.Proofs.YtmapdfommjcebaaGreatW.PrintMore
attribute [local go_sem] Oper.semAt_some
/-- What a round keeps: all blocks that lay below n0, and all cells, but for two blocks. -/
structure KpD (n0 gb nb : Nat) (W W' : World) : Prop where
  size : W.heap.size ≤ W'.heap.size
  same : ∀ k o, W.heap[k]? = some o → (k < n0 ∨ o.isCells = true) → k ≠ gb → k ≠ nb → W'.heap[k]? = some o
theorem KpD.refl (n0 gb nb : Nat) (W : World) : KpD n0 gb nb W W := ⟨Nat.le_refl _, fun _ _ h _ _ _ => h⟩
theorem KpD.trans {n0 gb nb : Nat} {A B C : World} (h : KpD n0 gb nb A B) (k : KpD n0 gb nb B C) : KpD n0 gb nb A C :=
  ⟨Nat.le_trans h.size k.size, fun i o hi hc h1 h2 => k.same i o (h.same i o hi hc h1 h2) hc h1 h2⟩
theorem KpD.alloc {n0 gb nb : Nat} {A B : World} (h : KpD n0 gb nb A B) (o : Obj) : KpD n0 gb nb A (B.alloc o) :=
  h.trans ⟨by simp, fun k o' hk _ _ _ => (Below.heap_alloc B o k (blk_lt hk)).trans hk⟩
/-- A byte that waits, with a place on a disk of L bytes. -/
abbrev PB (L : Nat) := { x : Nat × Int // x.1 < L }
theorem pend_take_succ (q : List (Int × List Int)) (k : Nat) (hk : k < q.length) : pend (q.take (k + 1)) = pend (q.take k) ++ pendOf q[k] := by
  rw [List.take_succ_eq_append_getElem hk, pend_append]
  simp [pend]
theorem pendOf_get (w : Int × List Int) (m : Nat) (hm : m < w.2.length) : (pendOf w).take (m + 1) = (pendOf w).take m ++ [(w.1.toNat + m, w.2[m])] := by
  have hl : m < (pendOf w).length := by rw [pendOf_length]; exact hm
  rw [List.take_succ_eq_append_getElem hl]
  congr 2
  simp [pendOf]
set_option maxHeartbeats 2000000 in
set_option maxRecDepth 100000 in
theorem bytes1_in (F : Fence) (n : Nat) (h96 : F.fn 97) (hro : F.round = none) (hn : 1 ≤ n) (l Bs g gb nb n0 L : Nat) (q : List (Int × List Int)) (vq : Value) (ok : Nat → Prop)
    (hfit : ∀ w ∈ q, 0 ≤ w.1 ∧ w.1 + w.2.length ≤ L) (hL : L ≤ 262144) (hql : q.length ≤ 1000000) (J Jx : List (PB L) → World → Prop)
    (W : World) (hJ : AbidesFrom W.heap.size J)
    (hY : ∀ pre x W1, J pre W1 → pre.length < (pend q).length → YieldAt F (n - 1) Tryz.prog l #[.int .i64 (x.1.1 : Int), .int .u8 x.1.2] W1 fun e W' =>
      (e = .returned (.bool true) ∧ J (pre ++ [x]) W' ∧ KpD n0 gb nb W1 W') ∨ (e = .returned (.bool false) ∧ Jx (pre ++ [x]) W'))
    (hgb : gb < W.heap.size) (hnb : nb < W.heap.size) (hok : ∀ k, ok k → k < n0 ∧ k ≠ gb ∧ k ≠ nb)
    (hBs : W.cell? ⟨Bs, 0, none⟩ = some (.pointer (some ⟨g, 0, none⟩))) (hg1 : W.cell? ⟨g, 1, none⟩ = some vq) (hq : Kd.N WK 133 W 0 ok vq q) (hokl : ∀ k, ok k → k < W.heap.size) (h0 : J [] W) :
    CallsIn F n Tryz.prog 97 #[.func (.yield l) #[] #[], .pointer (some ⟨Bs, 0, none⟩)] W fun e W' => (∃ v, e = .returned v) ∧
      ((∃ ys : List (PB L), ys.map (·.1) = pend q ∧ J ys W') ∨ (∃ pre : List (PB L), pre.map (·.1) <+: pend q ∧ Jx pre W')) := by
  obtain ⟨A, c, hv⟩ := Kd.N_slice hq
  subst hv
  have HQ := Aside0.mk hq
  have HJ := Aside0.mk hJ
  have HY := Aside0.mk hY
  have HF := Aside0.mk hfit
  have HO := Aside0.mk hok
  have H0 := Aside0.mk h0
  have HN0 := Aside0.mk hokl
  clear hq hJ hY hfit hok h0 hokl
  refine callsIn_of_wp Tryz.func97 rfl h96 ?_ hro
  simp only [Tryz.ntmps97, List.size_toArray, List.length_cons, List.length_nil, Nat.reduceAdd, Nat.reduceSub, Array.replicate_succ, Array.replicate_zero, List.push_toArray, List.append_toArray, List.nil_append, List.cons_append]
  gi_wp2
  gi_loopw [12] (fun v12 wr => ∃ (k : Nat) (pre : List (PB L)), k ≤ q.length ∧ v12 = .int .i64 k ∧ Aside0 (pre.map (·.1) = pend (q.take k) ∧ J pre wr ∧ KpD n0 gb nb W wr))
    (fun v12 _ => q.length - (intOf v12).toNat)
  case atStart => exact ⟨0, [], by omega, rfl, ⟨rfl, H0.out, KpD.refl _ _ _ _⟩⟩
  case round =>
    obtain ⟨k, pre, hk, rfl, HR⟩ := hrel
    by_cases hlt : k < q.length
    · obtain ⟨ad, rfl⟩ := q_ptr HQ.out (by omega)
      have hq2 : Kd.N WK 133 wr 0 ok (.slice (some ad) q.length c) q := Kd.N_step HQ.out (fun k hk hlt => by
        obtain ⟨h1, h2, h3⟩ := HO.out k hk
        obtain ⟨o, ho⟩ : ∃ o, W.heap[k]? = some o := ⟨_, Array.getElem?_eq_getElem hlt⟩
        rw [ho]
        exact HR.out.2.2.same k o ho (.inl h1) h2 h3)
      obtain ⟨A2, c2, g1, g2, hl2, hF2⟩ := q_at hq2 k hlt
      have hfit := HF.out _ (List.getElem_mem hlt)
      obtain ⟨z, hz⟩ := Int.eq_ofNat_of_zero_le hfit.1
      have HS := Aside0.mk (pend_take_succ q k hlt)
      have HP := Aside0.mk (show (pendOf q[k]).length = q[k].2.length from pendOf_length _)
      have HG := Aside0.mk (pendOf_get q[k])
      have HF2 := Aside0.mk hF2
      have HZ := Aside0.mk hz
      have hy : z + q[k].2.length ≤ L := by have := hfit.2; omega
      rw [hz] at g1
      obtain ⟨y, hy2⟩ : ∃ y, y = q[k].2 := ⟨_, rfl⟩
      rw [← hy2] at g2 hl2 hy HF2
      have HYQ := Aside0.mk hy2
      clear hq2 hfit hz hy2 hF2
      obtain ⟨B, hB⟩ : ∃ B, B = wr.heap.size := ⟨_, rfl⟩
      have HBW := Aside0.mk (show W.heap.size ≤ B by rw [hB]; exact HR.out.2.2.size)
      have HB0 := Aside0.mk (show (wr.alloc (.cells #[.int .i64 z, .slice A2 y.length c2] 133)).heap[B]? = some (.cells #[.int .i64 z, .slice A2 y.length c2] 133 (0, 0)) by rw [hB]; exact heap_alloc_new _ _)
      have HR0 := Aside0.mk (show J pre (wr.alloc (.cells #[.int .i64 z, .slice A2 y.length c2] 133)) ∧ KpD n0 gb nb W (wr.alloc (.cells #[.int .i64 z, .slice A2 y.length c2] 133)) from
        ⟨HJ.out _ _ _ none HR.out.2.1 (World.grownBy_alloc _ _ _) (by simp), HR.out.2.2.alloc _⟩)
      gi_wp2
      rw [← hB]
      clear hB
      obtain ⟨wo, hwo⟩ : ∃ wo : World, wo = wr := ⟨_, rfl⟩
      subst hwo
      have HZ2 := Aside0.mk (show z + y.length ≤ 262144 by omega)
      gi_loopw [19] (fun v19 wi => ∃ (m : Nat) (pre : List (PB L)), m ≤ y.length ∧ v19 = .int .i64 m ∧ Aside0 (pre.map (·.1) = pend (q.take k) ++ (pendOf q[k]).take m ∧ J pre wi ∧ KpD n0 gb nb W wi ∧ wi.heap[B]? = some (.cells #[.int .i64 z, .slice A2 y.length c2] 133 (0, 0))))
        (fun v19 _ => y.length - (intOf v19).toNat)
      case atStart => exact ⟨0, pre, by omega, rfl, ⟨by rw [HR.out.1, List.take_zero, List.append_nil], HR0.out.1, HR0.out.2, HB0.out⟩⟩
      case round =>
        clear HR0 HB0
        obtain ⟨m, pre2, hm, rfl, HI⟩ := hrel
        obtain ⟨wi, hwi⟩ : ∃ wi : World, wi = wr := ⟨_, rfl⟩
        subst hwi
        by_cases hlm : m < y.length
        · have hF3 : Kd.F (Kd.int .u8) wi ok A2 y.length y := Kd.F_step HF2.out (fun k hk hlt2 => by
            obtain ⟨h1, h2, h3⟩ := HO.out k hk
            rcases Nat.lt_or_ge k W.heap.size with c1 | c1
            · obtain ⟨o, ho⟩ : ∃ o, W.heap[k]? = some o := ⟨_, Array.getElem?_eq_getElem c1⟩
              rw [HI.out.2.2.1.same k o ho (.inl h1) h2 h3, HR.out.2.2.same k o ho (.inl h1) h2 h3]
            · exact absurd (HN0.out k hk) (by omega))
          obtain ⟨ad2, rfl, hcell⟩ := Kd.at_int (Kd.F_now hF3) (m : Int) (by omega) (by omega)
          have hrd : rd y (m : Int) = y[m] := by simp [rd, List.getD_eq_getElem?_getD, List.getElem?_eq_getElem hlm]
          rw [hrd, show (m : Int).toNat = m from by omega] at hcell
          have hb0 : wi.cell? ⟨B, 0, none⟩ = some (.int .i64 z) := by rw [blk_cell HI.out.2.2.2]; rfl
          have hgo : (pendOf q[k]).take (m + 1) = (pendOf q[k]).take m ++ [(z + m, y[m])] := by
            have h1 := HG.out m (by rw [← HYQ.out]; exact hlm)
            rw [h1, HZ.out, Int.toNat_natCast]
            congr 3
            simp [HYQ.out]
          obtain ⟨c, hc⟩ : ∃ c, c = y[m] := ⟨_, rfl⟩
          rw [← hc] at hcell hgo
          have HGO := Aside0.mk hgo
          obtain ⟨fn, tmps, assign, body, hyl, hR⟩ := HY.out pre2 ⟨(z + m, c), by show z + m < L; omega⟩ wi HI.out.2.1 (by
            have h1 := congrArg List.length HI.out.1
            rw [List.length_map, List.length_append, List.length_take, HP.out, ← HYQ.out] at h1
            have h2 : (pend q).length = (pend (q.take k)).length + (pendOf q[k]).length + (pend (q.drop (k + 1))).length := by
              conv => lhs; rw [← List.take_append_drop (k + 1) q, pend_append, HS.out]
              rw [List.length_append, List.length_append]
            rw [HP.out, ← HYQ.out] at h2
            omega)
          dsimp only at hyl
          rw [Int.natCast_add] at hyl
          clear hF3 hrd hc hgo
          gi_wp2
          refine hR.mono ?_
          rintro e W3 (⟨rfl, hJ3, hk3⟩ | ⟨rfl, hJx3⟩)
          · have HI3 := Aside0.mk (show (pre2 ++ [(⟨(z + m, c), by show z + m < L; omega⟩ : PB L)]).map (fun x : PB L => x.1) = pend (q.take k) ++ (pendOf q[k]).take (m + 1) ∧ J (pre2 ++ [(⟨(z + m, c), by show z + m < L; omega⟩ : PB L)]) W3 ∧ KpD n0 gb nb W W3 ∧ W3.heap[B]? = some (.cells #[.int .i64 z, .slice (some ad2) y.length c2] 133 (0, 0)) from
              ⟨by rw [HGO.out, List.map_append, HI.out.1, List.append_assoc]; rfl, hJ3, HI.out.2.2.1.trans hk3, hk3.same B _ HI.out.2.2.2 (.inr rfl) (by have := HBW.out; omega) (by have := HBW.out; omega)⟩)
            clear hJ3 hk3 HI
            gi_wp2
            go_roundw
            case rel => exact ⟨m + 1, _, by omega, by go_num, HI3⟩
            case measure => simp [intOf]; omega
          · gi_wp2
            refine bodyPost_ret (results_none rfl _ _ _) rfl ?_
            refine ⟨⟨_, rfl⟩, .inr ⟨_, ?_, hJx3⟩⟩
            rw [List.map_append, HI.out.1, List.append_assoc]
            show pend (q.take k) ++ ((pendOf q[k]).take m ++ [(z + m, c)]) <+: pend q
            rw [← HGO.out]
            refine List.IsPrefix.trans (l₂ := pend (q.take (k + 1))) ?_ ?_
            · rw [HS.out]
              exact (List.prefix_append_right_inj _).2 (List.take_prefix _ _)
            · conv => rhs; rw [← List.take_append_drop (k + 1) q, pend_append]
              exact List.prefix_append _ _
        · obtain rfl : m = y.length := by omega
          have HI3 := Aside0.mk (show pre2.map (·.1) = pend (q.take (k + 1)) ∧ J pre2 wi ∧ KpD n0 gb nb W wi from
            ⟨by rw [HI.out.1, HS.out, HYQ.out, ← HP.out, List.take_length], HI.out.2.1, HI.out.2.2.1⟩)
          gi_wp2
          go_roundw
          case rel => exact ⟨k + 1, pre2, by omega, by go_num, HI3⟩
          case measure => simp [intOf]; omega
    · obtain rfl : k = q.length := by omega
      gi_wp2
      go_end0
      refine ⟨⟨_, rfl⟩, .inl ⟨pre, ?_, HR.out.2.1⟩⟩
      have := HR.out.1
      rwa [List.take_length] at this
end Go.Proofs.YtmapdfommjcebaaGreat.Own
namespace Go.Proofs.YtmapdfommjcebaaGreat.Own
open Go.RowKit Go.Proofs.YtmapdfommjcebaaGreatW.PrintWords Go.Proofs.YtmapdfommjcebaaGreatW.PrintLast Go.Proofs.YtmapdfommjcebaaGreatW.PrintMore
attribute [local go_sem] Oper.semAt_some
set_option maxHeartbeats 400000 in
set_option maxRecDepth 100000 in
theorem bytes_in (F : Fence) (n : Nat) (h91 : F.fn 83) (hro : F.round = none) (p : Option Addr) (w : World) :
    CallsIn F n Tryz.prog 83 #[.pointer p] w fun e w' => e = .returned (.func (.func 97) #[] #[.pointer (some ⟨w.heap.size, 0, none⟩)]) ∧ w' = w.alloc (.cells #[.pointer p] 24) := by
  refine callsIn_of_wp Tryz.func83 rfl h91 ?_ hro
  simp only [Tryz.ntmps83, List.size_toArray, List.length_cons, List.length_nil, Nat.reduceAdd, Nat.reduceSub, Array.replicate_succ, Array.replicate_zero, List.push_toArray, List.append_toArray, List.nil_append, List.cons_append]
  gi_wp2
  go_ret
  exact ⟨rfl, rfl⟩
/-- Between two rounds: so many bytes have lasted. -/
structure SetI (S : Nat → Prop) (g gb cap : Nat) (vq : Value) (d : Dm) (w : World) (last : Int) (pre : List (PB d.b.length)) (W : World) : Prop where
  le : (pre.length : Int) ≤ max last 0
  c0 : W.heap[w.heap.size]? = some (.cells #[.pointer (some ⟨g, 0, none⟩)] 24 (0, 0))
  c1 : W.heap[w.heap.size + 1]? = some (.cells #[.int .i64 last] 3 (0, 0))
  c2 : W.heap[w.heap.size + 1 + 1]? = some (.cells #[.int .i64 pre.length] 3 (0, 0))
  disk : DiskAt W S g gb cap vq { d with b := putAll d.b (pre.map (·.1)) }
  chg : Chg S w W
def SetX (S : Nat → Prop) (g gb cap : Nat) (vq : Value) (d : Dm) (w : World) (last : Int) (c : Code) (pre : List (PB d.b.length)) (W : World) : Prop :=
  ∃ pre0 x, pre = pre0 ++ [x] ∧ c = .exit 0 ∧ last ≤ pre0.length ∧ SetI S g gb cap vq d w last pre0 W
section
variable {S : Nat → Prop} {g gb cap : Nat} {vq : Value} {d : Dm} {w : World} {last : Int}
theorem SetI.own (hS : ∀ k, S k → k < w.heap.size) : OwnFrom (w.heap.size + 1 + 1 + 1 + 1) (SetI S g gb cap vq d w last) := by
  intro pre W W' row h hg hr
  have hb : ∀ k, k < W.heap.size → k < w.heap.size + 1 + 1 + 1 + 1 → W'.heap[k]? = W.heap[k]? := fun k hk hk2 => hg.block k hk (fun e => by
    have := (hr k e.symm).1
    omega)
  have hc : Chg (fun k => some k = row) W W' := ⟨hg.os, hg.tape, hg.output, hg.size, fun k hk hn => hg.block k hk hn⟩
  refine ⟨h.le, ?_, ?_, ?_, h.disk.chg hc (fun k hk e => by have := (hr k e.symm).1; have := hS k hk; omega), h.chg.then_ hc (fun k e => .inr (by have := (hr k e.symm).1; omega))⟩
  · rw [hb _ (blk_lt h.c0) (by omega)]; exact h.c0
  · rw [hb _ (blk_lt h.c1) (by omega)]; exact h.c1
  · rw [hb _ (blk_lt h.c2) (by omega)]; exact h.c2
theorem SetX.own (hS : ∀ k, S k → k < w.heap.size) (c : Code) : OwnFrom (w.heap.size + 1 + 1 + 1 + 1) (SetX S g gb cap vq d w last c) := by
  rintro pre W W' row ⟨pre0, x, h1, h2, h3, h4⟩ hg hr
  exact ⟨pre0, x, h1, h2, h3, SetI.own hS pre0 W W' row h4 hg hr⟩
/-- One byte more has lasted. -/
theorem SetI.step {pre : List (PB d.b.length)} {W : World} (h : SetI S g gb cap vq d w last pre W) (hS : ∀ k, S k → k < w.heap.size) (x : PB d.b.length) (hl : (pre.length : Int) < last) :
    SetI S g gb cap vq d w last (pre ++ [x]) ((W.setCell ⟨gb, x.1.1, none⟩ (.int .u8 x.1.2)).setCell ⟨w.heap.size + 1 + 1, 0, none⟩ (.int .i64 (pre.length + 1))) := by
  have hg := hS g h.disk.inG
  have hgb := hS gb h.disk.inB
  have hlen : (putAll d.b (pre.map (·.1))).length = d.b.length := putAll_length _ _
  have hput : putAll d.b ((pre ++ [x]).map (·.1)) = (putAll d.b (pre.map (·.1))).set x.1.1 x.1.2 := by rw [List.map_append, putAll_append]; rfl
  have hB : OwnB (W.setCell ⟨gb, x.1.1, none⟩ (.int .u8 x.1.2)) 0 (.slice (some ⟨gb, 0, none⟩) (putAll d.b (pre.map (·.1))).length cap) ((putAll d.b (pre.map (·.1))).set x.1.1 x.1.2) := by
    have h1 := own_put h.disk.bytes (x.1.1 : Int) x.1.2
    rw [show ((x.1.1 : Nat) : Int).toNat = x.1.1 from by omega] at h1
    unfold OwnB
    rw [List.length_set] at h1 ⊢
    exact h1
  refine ⟨by rw [List.length_append, List.length_singleton]; omega, ?_, ?_, ?_, ⟨?_, ?_, ?_, ?_, h.disk.inG, h.disk.inB, h.disk.ne, ?_⟩, ?_⟩
  · exact blk_far (blk_far h.c0 (by exact fun e => by simp at e; omega) _) (by exact fun e => by simp at e; omega) _
  · exact blk_far (blk_far h.c1 (by exact fun e => by simp at e; omega) _) (by exact fun e => by simp at e) _
  · rw [List.length_append, List.length_singleton]
    exact blk_put (blk_far h.c2 (by exact fun e => by simp at e; omega) _) 0 _ rfl
  · show _ = some (Obj.cells #[.slice (some ⟨gb, 0, none⟩) (putAll d.b ((pre ++ [x]).map (·.1))).length cap, vq, .int .i64 d.fl, .int .i64 d.wr] 93 (0, 0))
    rw [hput, List.length_set]
    exact blk_far (blk_far h.disk.cells (by exact h.disk.ne) _) (by exact fun e => by simp at e; omega) _
  · show OwnB _ 0 (.slice (some ⟨gb, 0, none⟩) (putAll d.b ((pre ++ [x]).map (·.1))).length cap) (putAll d.b ((pre ++ [x]).map (·.1)))
    rw [hput, List.length_set]
    exact own_move hB (fun k hk => by
      simp [Value.ownBlock] at hk
      subst hk
      exact Below.heap_setCell _ _ _ _ (by exact fun e => by simp at e; omega))
  · exact Kd.N_far (Kd.N_far h.disk.queue (p := ⟨gb, x.1.1, none⟩) (fun k hk => hk.2.2) _) (p := ⟨w.heap.size + 1 + 1, 0, none⟩) (fun k hk e => by have := hS k hk.1; simp at e; omega) _
  · have ho := h.disk.ok
    have hl2 : (putAll d.b ((pre ++ [x]).map (·.1))).length = d.b.length := putAll_length _ _
    refine ⟨?_, ?_, ?_⟩
    · show 64 ≤ (putAll d.b ((pre ++ [x]).map (·.1))).length
      rw [hl2, ← hlen]; exact ho.lo
    · show (putAll d.b ((pre ++ [x]).map (·.1))).length ≤ 262144
      rw [hl2, ← hlen]; exact ho.hi
    · intro v hv
      show 0 ≤ v.1 ∧ v.1 + v.2.length ≤ (putAll d.b ((pre ++ [x]).map (·.1))).length
      rw [hl2, ← hlen]; exact ho.fit v hv
  · intro k hk
    have := h.disk.lt k hk
    simpa [World.setCell] using this
  · exact (h.chg.setCell (.inl h.disk.inB) _).setCell (.inr (by show w.heap.size ≤ w.heap.size + 1 + 1; omega)) _
end
theorem enters96 : ∀ (args : Array Value) (w : World), (callFunc 97 args).run Tryz.prog w = .ok (.enter 97 args) w := by
  intro args w
  have h1 : Tryz.f97.name ≠ "runtime.NumGoroutine" := by
    have : (Tryz.f97.name == "runtime.NumGoroutine") = false := by kernel_rfl
    simpa using this
  have hb : Tryz.f97.body.isSome = true := by kernel_rfl
  obtain ⟨c, hc⟩ := Option.isSome_iff_exists.1 hb
  simp [callFunc, Tryz.func97, h1, hc, mark]
theorem SetI.start {S : Nat → Prop} {g gb cap : Nat} {vq : Value} {d : Dm} {w : World} (last : Int) (h : DiskAt w S g gb cap vq d) :
    SetI S g gb cap vq d w last [] ((((w.alloc (.cells #[.pointer (some ⟨g, 0, none⟩)] 24)).alloc (.cells #[.int .i64 last] 3)).alloc (.cells #[.int .i64 0] 3)).alloc (.cells #[.pointer (some ⟨g, 0, none⟩)] 24)) := by
  have z1 : (w.alloc (.cells #[.pointer (some ⟨g, 0, none⟩)] 24)).heap.size = w.heap.size + 1 := by simp
  have z2 : ((w.alloc (.cells #[.pointer (some ⟨g, 0, none⟩)] 24)).alloc (.cells #[.int .i64 last] 3)).heap.size = w.heap.size + 1 + 1 := by simp
  have b1 := below_alloc (Below.refl _ w) (.cells #[.pointer (some ⟨g, 0, none⟩)] 24)
  have b2 := below_alloc b1 (.cells #[.int .i64 last] 3)
  have b3 := below_alloc b2 (.cells #[.int .i64 0] 3)
  have b4 := below_alloc b3 (.cells #[.pointer (some ⟨g, 0, none⟩)] 24)
  refine ⟨by simp; omega, ?_, ?_, ?_, h.below b4, Chg.of_below _ b4⟩
  · rw [Below.heap_alloc _ _ _ (by simp; omega), Below.heap_alloc _ _ _ (by simp; omega), Below.heap_alloc _ _ _ (by simp)]
    exact heap_alloc_new _ _
  · rw [Below.heap_alloc _ _ _ (by simp), Below.heap_alloc _ _ _ (by simp), ← z1]
    exact heap_alloc_new _ _
  · rw [Below.heap_alloc _ _ _ (by simp), ← z2]
    exact heap_alloc_new _ _
theorem kpD_put {n0 gb nb l : Nat} (W : World) (o o' : Obj) (hl : n0 ≤ l) (h : W.heap[l]? = some o) (hc : o.isCells = false) : KpD n0 gb nb W (W.putObj l o') :=
  ⟨by simp, fun k o2 hk h1 _ _ => by
    have hne : k ≠ l := by
      rintro rfl
      rw [h] at hk
      injection hk with hk
      subst hk
      rcases h1 with h1 | h1
      · omega
      · rw [hc] at h1; cases h1
    rw [World.putObj_heap_other hne]
    exact hk⟩
theorem kpD_step {n0 gb nb a : Nat} {u v : Value} (W : World) : KpD n0 gb nb W ((W.setCell ⟨gb, a, none⟩ u).setCell ⟨nb, 0, none⟩ v) :=
  ⟨by simp [World.setCell], fun k o hk _ h1 h2 => by
    rw [Below.heap_setCell _ _ _ _ (by exact h2), Below.heap_setCell _ _ _ _ (by exact h1)]
    exact hk⟩
theorem SetI.finish {S : Nat → Prop} {g gb cap : Nat} {vq : Value} {d : Dm} {w : World} {last : Int} {pre : List (PB d.b.length)} {W : World} (h : SetI S g gb cap vq d w last pre W) (hS : ∀ k, S k → k < w.heap.size)
    (hp : pre.map (·.1) = (pend d.q).take last.toNat) {D : Nat} (hD : w.heap.size ≤ D) (o : Obj) :
    DiskAt ((W.setCell ⟨g, 1, none⟩ (.slice none 0 0)).putObj D o) S g gb cap (.slice none 0 0) (d.settle last) ∧ Chg S w ((W.setCell ⟨g, 1, none⟩ (.slice none 0 0)).putObj D o) := by
  have hg := hS g h.disk.inG
  have hgb := hS gb h.disk.inB
  have hb : putAll d.b (pre.map (·.1)) = (d.settle last).b := by rw [hp]; rfl
  have hc : Chg (fun k => k = D) (W.setCell ⟨g, 1, none⟩ (.slice none 0 0)) ((W.setCell ⟨g, 1, none⟩ (.slice none 0 0)).putObj D o) :=
    ⟨rfl, rfl, rfl, by simp, fun k _ hn => World.putObj_heap_other hn⟩
  have hd : DiskAt (W.setCell ⟨g, 1, none⟩ (.slice none 0 0)) S g gb cap (.slice none 0 0) (d.settle last) := by
    refine ⟨?_, ?_, Kd.N_nil _ _ _ _ _, Dm.ok_settle ⟨?_, ?_, ?_⟩ last, h.disk.inG, h.disk.inB, h.disk.ne, ?_⟩
    · have := h.disk.cells
      rw [← hb]
      exact blk_put this 1 _ rfl
    · rw [← hb]
      refine own_move h.disk.bytes (fun k hk => ?_)
      simp [Value.ownBlock] at hk
      subst hk
      exact Below.heap_setCell _ _ _ _ (by exact fun e => h.disk.ne e.symm)
    · have := h.disk.ok.lo
      rwa [show (putAll d.b (pre.map (·.1))).length = d.b.length from putAll_length _ _] at this
    · have := h.disk.ok.hi
      rwa [show (putAll d.b (pre.map (·.1))).length = d.b.length from putAll_length _ _] at this
    · intro v hv
      have := h.disk.ok.fit v hv
      rwa [show (putAll d.b (pre.map (·.1))).length = d.b.length from putAll_length _ _] at this
    · intro k hk
      have := h.disk.lt k hk
      simpa [World.setCell] using this
  exact ⟨hd.chg hc (fun k hk e => by have := hS k hk; omega), (h.chg.setCell (.inl h.disk.inG) _).then_ hc (fun k e => .inr (by omega))⟩
set_option maxHeartbeats 2000000 in
set_option maxRecDepth 100000 in
theorem settle_at {S : Nat → Prop} {g gb cap : Nat} {vq : Value} {d : Dm} {w : World} (h : DiskAt w S g gb cap vq d) (hq : d.q.length ≤ 1000000) (last : Int) :
    Calls Tryz.prog 61 #[.pointer (some ⟨g, 0, none⟩), .int .i64 last] w fun e w' => e = .returned (.tuple #[]) ∧ DiskAt w' S g gb cap (.slice none 0 0) (d.settle last) ∧ Chg S w w' := by
  have H := Aside0.mk h
  have HI := Aside0.mk (SetI.start last h)
  have hS := h.lt
  have HS := Aside0.mk hS
  have hgb := hS gb h.inB
  have hgg := hS g h.inG
  have hdl := h.ok.hi
  have HF := Aside0.mk h.ok.fit
  have HPL := Aside0.mk (show (pend d.q).length ≤ 1000000 * 262144 by
    rw [pend_length]
    exact Nat.le_trans (sum_le d.q 262144 (fun v hv => by have := HF.out v hv; omega)) (Nat.mul_le_mul_right _ hq))
  have b4 := below_alloc (below_alloc (below_alloc (below_alloc (Below.refl _ w) (.cells #[.pointer (some ⟨g, 0, none⟩)] 24)) (.cells #[.int .i64 last] 3)) (.cells #[.int .i64 0] 3)) (.cells #[.pointer (some ⟨g, 0, none⟩)] 24)
  have H4 := Aside0.mk (h.below b4)
  clear h hS b4
  refine (callsIn_wide (n := 9)).1 ?_
  refine callsIn_of_wp_marks Tryz.func61 rfl trivial ?_ rfl
  simp only [Tryz.ntmps61, List.size_toArray, List.length_cons, List.length_nil, Nat.reduceAdd, Nat.reduceSub, Array.replicate_succ, Array.replicate_zero, List.push_toArray, List.append_toArray, List.nil_append, List.cons_append]
  gi_wp2_with (refine ⟨trivial, ?_⟩; gi_at_call 83; refine (bytes_in Fence.wide _ trivial rfl _ _).mono ?_; rintro e w' ⟨rfl, rfl⟩)
  obtain ⟨wl, hwl⟩ : ∃ wl, wl = ((((w.alloc (.cells #[.pointer (some ⟨g, 0, none⟩)] 24)).alloc (.cells #[.int .i64 last] 3)).alloc (.cells #[.int .i64 0] 3)).alloc (.cells #[.pointer (some ⟨g, 0, none⟩)] 24)) := ⟨_, rfl⟩
  have hbox : wl.cell? ⟨w.heap.size + 1 + 1 + 1, 0, none⟩ = some (.pointer (some ⟨g, 0, none⟩)) := by
    have z3 : (((w.alloc (.cells #[.pointer (some ⟨g, 0, none⟩)] 24)).alloc (.cells #[.int .i64 last] 3)).alloc (.cells #[.int .i64 0] 3)).heap.size = w.heap.size + 1 + 1 + 1 := by simp
    have hb : wl.heap[w.heap.size + 1 + 1 + 1]? = some (.cells #[.pointer (some ⟨g, 0, none⟩)] 24 (0, 0)) := by rw [hwl, ← z3]; exact heap_alloc_new _ _
    rw [blk_cell hb]; rfl
  have hsz : wl.heap.size = w.heap.size + 1 + 1 + 1 + 1 := by rw [hwl]; simp
  rw [← hwl] at HI H4 ⊢
  clear hwl
  refine wpIn_rangeFunc_ownG rfl (by omega) (gf := 97) (lb := #[.pointer (some ⟨w.heap.size + 1 + 1 + 1, 0, none⟩)]) rfl trivial enters96
    (encs := fun x : PB d.b.length => #[.int .i64 (x.1.1 : Int), .int .u8 x.1.2]) (Kp := KpD wl.heap.size gb (w.heap.size + 1 + 1)) (S := fun xs => xs.map (·.1) = pend d.q) (Sp := fun xs => xs.map (·.1) <+: pend d.q) (N := (pend d.q).length) (w0 := wl)
    ?seq (fun h k => h.trans k) (fun W l o o' hl h hc _ => kpD_put W o o' hl h hc) (Below.refl _ _) (fun _ => rfl)
    (SetI S g gb cap vq d w last) (SetX S g gb cap vq d w last) (by rw [hsz]; exact SetI.own HS.out) (fun c => by rw [hsz]; exact SetX.own HS.out c) HI.out
    (fun x => { tmps := #[.pointer (some ⟨g, 0, none⟩), .int .i64 last, .pointer (some ⟨w.heap.size, 0, none⟩), .pointer (some ⟨w.heap.size + 1, 0, none⟩), .pointer (some ⟨w.heap.size + 1 + 1, 0, none⟩), .int .i64 (x.1.1 : Int), .int .u8 x.1.2, .pointer (some ⟨g, 0, none⟩), .func (.func 97) #[] #[.pointer (some ⟨w.heap.size + 1 + 1 + 1, 0, none⟩)], .int .i64 (x.1.1 : Int), .int .u8 x.1.2, undef, undef, undef, undef, undef, undef, undef, undef, undef, undef, undef, undef, undef, undef, undef], defers := [] }) ?assign ?body ?done ?stop
  case seq =>
    intro l J Jx W hb hJ hJx hY h0
    have hgl : g < wl.heap.size := by omega
    refine bytes1_in Fence.wide _ trivial rfl (by omega) l (w.heap.size + 1 + 1 + 1) g gb (w.heap.size + 1 + 1) wl.heap.size d.b.length d.q vq (fun k => S k ∧ k ≠ g ∧ k ≠ gb) HF.out hdl hq J Jx W hJ hY ?_ ?_ ?_ ?_ ?_ ?_ ?_ h0
    · have := hb.size; omega
    · have := hb.size; omega
    · intro k hk
      have := HS.out k hk.1
      exact ⟨by omega, hk.2.2, by omega⟩
    · rw [hb.cell (p := ⟨w.heap.size + 1 + 1 + 1, 0, none⟩) (by show w.heap.size + 1 + 1 + 1 < wl.heap.size; omega)]; exact hbox
    · rw [hb.cell (p := ⟨g, 1, none⟩) hgl]; exact H4.out.at_.2.1
    · exact Kd.N_below H4.out.queue hb
    · intro k hk
      have := HS.out k hk.1
      have := hb.size
      omega
  case assign =>
    intro l x W K hK
    gi_wp2
    exact hK
  case body =>
    rintro l pre x W hi hlen
    have HI2 := Aside0.mk hi
    have p0 : W.cell? ⟨w.heap.size, 0, none⟩ = some (.pointer (some ⟨g, 0, none⟩)) := by rw [blk_cell hi.c0]; rfl
    have p1 : W.cell? ⟨w.heap.size + 1, 0, none⟩ = some (.int .i64 last) := by rw [blk_cell hi.c1]; rfl
    have p2 : W.cell? ⟨w.heap.size + 1 + 1, 0, none⟩ = some (.int .i64 pre.length) := by rw [blk_cell hi.c2]; rfl
    have p3 : W.frozen? ⟨w.heap.size + 1 + 1, 0, none⟩ = false := blk_frozen hi.c2 0
    obtain ⟨q0, _, _, _⟩ := hi.disk.at_
    have hlen2 : (putAll d.b (pre.map (·.1))).length = d.b.length := putAll_length _ _
    have q0' : W.cell? ⟨g, 0, none⟩ = some (.slice (some ⟨gb, 0, none⟩) d.b.length cap) := by rw [q0]; show some (Value.slice _ (putAll d.b (pre.map (·.1))).length _) = _; rw [hlen2]
    have hx := x.2
    obtain ⟨s0, s1⟩ := own_at hi.disk.bytes (x.1.1 : Int) (by omega) (by show (x.1.1 : Int) < ((putAll d.b (pre.map (·.1))).length : Int); rw [hlen2]; omega)
    rw [show ((x.1.1 : Nat) : Int).toNat = x.1.1 from by omega] at s0 s1
    have hnb : w.heap.size + 1 + 1 ≠ gb := by omega
    clear q0 hi hlen2
    by_cases hc : last ≤ (pre.length : Int)
    · gi_wp2
      exact ⟨KeepsFrom.refl _ _, pre, x, rfl, rfl, hc, HI2.out⟩
    · have hpl : (pre.length : Int) < 9223372036854775807 := by have := HPL.out; omega
      gi_wp2
      exact ⟨((KeepsOthers.setCell _ _ _).trans (KeepsOthers.setCell _ _ _)).from _, kpD_step W, SetI.step HI2.out HS.out x (by omega)⟩
  case done =>
    rintro D ys W hD hys hi hK
    have HI2 := Aside0.mk hi
    have HK := Aside0.mk hK
    have p0 : W.cell? ⟨w.heap.size, 0, none⟩ = some (.pointer (some ⟨g, 0, none⟩)) := by rw [blk_cell hi.c0]; rfl
    obtain ⟨_, q1, _, _⟩ := hi.disk.at_
    have q2 := hi.disk.free 1
    have HY := Aside0.mk hys
    clear hi hK hys
    gi_wp2
    have hK2 : (W.setCell ⟨g, 1, none⟩ (.slice none 0 0)).heap[D]? = some (.deferred (some [])) := by
      rw [Below.heap_setCell _ _ _ _ (by show D ≠ g; omega)]
      exact HK.out
    have hp : ys.map (·.1) = (pend d.q).take last.toNat := by
      have h1 := congrArg List.length HY.out
      rw [List.length_map] at h1
      have h2 := HI2.out.le
      rw [HY.out, List.take_of_length_le (by omega)]
    obtain ⟨f1, f2⟩ := HI2.out.finish HS.out hp (show w.heap.size ≤ D by omega) (.deferred none)
    refine ⟨by simp, .inl ⟨_, _, rfl, run_takeDeferred hK2, ?_⟩⟩
    exact ⟨_, results_none rfl _ _ _, rfl, f1, f2⟩
  case stop =>
    rintro D c pre W hD hp ⟨pre0, x, hpx, rfl, hl, hi⟩ hK
    have HI2 := Aside0.mk hi
    have HK := Aside0.mk hK
    have p0 : W.cell? ⟨w.heap.size, 0, none⟩ = some (.pointer (some ⟨g, 0, none⟩)) := by rw [blk_cell hi.c0]; rfl
    obtain ⟨_, q1, _, _⟩ := hi.disk.at_
    have q2 := hi.disk.free 1
    have HY := Aside0.mk hp
    have HX := Aside0.mk hpx
    clear hi hK hp hpx
    gi_wp2
    have hK2 : (W.setCell ⟨g, 1, none⟩ (.slice none 0 0)).heap[D]? = some (.deferred (some [])) := by
      rw [Below.heap_setCell _ _ _ _ (by show D ≠ g; omega)]
      exact HK.out
    have hp : pre0.map (·.1) = (pend d.q).take last.toNat := by
      have h2 := HI2.out.le
      have h1 := HY.out
      rw [HX.out, List.map_append] at h1
      have h3 := List.IsPrefix.trans (List.prefix_append _ _) h1
      have h4 := List.prefix_iff_eq_take.1 h3
      rcases Nat.eq_zero_or_pos pre0.length with h0 | h0
      · have : pre0 = [] := List.eq_nil_of_length_eq_zero h0
        subst this
        rw [show last.toNat = 0 by simp at hl; omega]
        rfl
      · rw [h4, List.length_map]
        congr 1
        omega
    obtain ⟨f1, f2⟩ := HI2.out.finish HS.out hp (show w.heap.size ≤ D by omega) (.deferred none)
    refine ⟨by simp, .inl ⟨_, _, rfl, run_takeDeferred hK2, ?_⟩⟩
    exact ⟨_, results_none rfl _ _ _, rfl, f1, f2⟩
end Go.Proofs.YtmapdfommjcebaaGreat.Own
namespace Go.Proofs.YtmapdfommjcebaaGreat.Own
open Go.RowKit Go.Proofs.YtmapdfommjcebaaGreatW.PrintWords Go.Proofs.YtmapdfommjcebaaGreatW.PrintLast Go.Proofs.YtmapdfommjcebaaGreatW.PrintMore
theorem run_mid (A : Option Addr) (n c : Nat) (lo hi : Int) (h0 : 0 ≤ lo) (h1 : lo ≤ hi) (h2 : hi ≤ n) (hc : n ≤ c) :
    ∀ W : World, (Instr.slice 29 (.slice A n c) (some (.int .i64 lo)) (some (.int .i64 hi)) none).run Tryz.prog W = .ok (.slice (if c = lo.toNat then A else A.map (·.add (lo.toNat * 1))) (hi.toNat - lo.toNat) (c - lo.toNat)) W := by
  obtain ⟨i0, hi0, hzz⟩ := Option.map_eq_some_iff.1 info5
  simp only [Prod.mk.injEq] at hzz
  exact cut_mid 29 5 .i64 .i64 Tryz.underlying29 hi0 1 hzz.2.1 A n c lo hi h0 h1 h2 hc
section
variable {ops : Array Oper} {o : Oper} {a : Act} {Q : Exit → Act → World → Prop} {K : Act → World → Prop} {E : Prop}
/-- copy into bytes of the call's own, from bytes that are read. -/
theorem copy_step {W : World} {base : Nat} (hgd : o.guard = none) (x y : Operand) (ho : o.op = .call { callee := .builtin .copy, args := #[x, y], argTypes := #[29, 29] })
    (g n cap off m dc sc : Nat) (sp : Option Addr) (xs ys : List Int) (hd : a.eval x = .slice (some ⟨g, off, none⟩) m dc) (hs : a.eval y = .slice sp m sc)
    (hO : OwnB W base (.slice (some ⟨g, 0, none⟩) n cap) xs) (hy : ys.length = m) (hC : (Kd.int .u8).C W sp ys.length ys) (hm : 0 < m) (hfit : off + m ≤ xs.length) (hn : xs.length = n)
    (h : ∀ w', OwnB w' base (.slice (some ⟨g, 0, none⟩) n cap) (Own.splice xs off ys) → W.grownBy w' (some g) → K (a.put o.dst (goInt ys.length)) w') :
    if Region.wanted o (yielded ops a.tmps) = true then Oper.wp Tryz.prog o a W K Q else E := by
  have hw : Region.wanted o (yielded ops a.tmps) = true := by simp [Region.wanted, hgd]
  rw [if_pos hw]
  subst hy
  obtain ⟨hl0, hrow⟩ := hO
  rcases hrow with ⟨he, _⟩ | ⟨g', cap', cur, he, hbg, hg, hnc, hcm, hcs, htk⟩
  · cases he
  injection he with e1 e2 e3
  injection e1 with e1
  injection e1 with e1 _ _
  subst e1 e3 e2
  obtain ⟨ad, rfl, hcc⟩ := hC.2.2 hm
  have hsrc : ∀ j v, (nums .u8 ys)[j]? = some v → W.cell? (ad.add j) = some v := by
    intro j v hv
    simp only [nums, List.getElem?_map, Option.map_eq_some_iff] at hv
    obtain ⟨z, hz, rfl⟩ := hv
    obtain ⟨c, _, hK, hcell⟩ := hcc j z hz
    have hc1 : c = [.int .u8 z] := hK
    subst hc1
    have := hcell 0 _ rfl
    rwa [show (Kd.int .u8).sz = 1 from rfl, Nat.mul_one, Nat.add_zero] at this
  rw [Nat.mul_one] at hcs htk
  have hln : (nums .u8 ys).length = ys.length := nums_length _ _
  have hrun := run_copy_row (P := Tryz.prog) W 29 29 o.type 5 g off ys.length dc ad ys.length sc cur 5 (nums .u8 ys) Tryz.underlying29 (by kernel_rfl) hg (by rw [hln]; simp) hsrc (by rw [hln]; omega) (by intro u hu; simp only [nums, List.mem_map] at hu; obtain ⟨q, _, rfl⟩ := hu; rfl)
  unfold Oper.wp
  rw [hln] at hrun
  simp [execOp, ho, resolve, invoke, builtin, hd, hs, hrun, Result.andThen]
  refine h _ ?_ ⟨rfl, rfl, rfl, by simp, fun k _ hk => setRow_other W g k _ (fun e => hk (by rw [e]))⟩
  have hlen : (Own.splice xs off ys).length = xs.length := splice_length hfit
  have hcl : cur.toList.take xs.length = nums .u8 xs := htk
  have hct : cur.toList.length = cur.size := Array.length_toList
  have hnx : (nums .u8 xs).length = xs.length := nums_length _ _
  refine ⟨by simp [nums], .inr ⟨g, cap, _, by rw [hlen], hbg, setRow_heap W g _ _ 5 _ hg, by rw [hlen]; exact hnc, hcm, ?_, ?_⟩⟩
  · simp only [List.size_toArray, List.length_append, List.length_take, List.length_drop, hln, hct]
    omega
  · rw [hlen, Nat.mul_one]
    obtain ⟨D, hD⟩ : ∃ D, cur.toList = nums .u8 xs ++ D := ⟨cur.toList.drop xs.length, by rw [← hcl, List.take_append_drop]⟩
    show ((cur.toList.take off ++ (nums .u8 ys ++ cur.toList.drop (off + ys.length)))).take xs.length = _
    have p1 : (nums .u8 xs ++ D).take off = (nums .u8 xs).take off := List.take_append_of_le_length (by omega)
    have p2 : (nums .u8 xs ++ D).drop (off + ys.length) = (nums .u8 xs).drop (off + ys.length) ++ D := List.drop_append_of_le_length (by omega)
    have p3 : ((nums .u8 xs).take off ++ nums .u8 ys ++ (nums .u8 xs).drop (off + ys.length)).length = xs.length := by simp [nums]; omega
    rw [hD, p1, p2, ← List.append_assoc, ← List.append_assoc, ← p3, List.take_left]
    simp [nums, Own.splice, List.map_take, List.map_drop]
end
/-! The window of what is read, behind one more write. -/
theorem win_in {b l : List Int} {p a n : Nat} (h1 : a + n ≤ b.length) (h2 : p + l.length ≤ b.length) {f t : Nat} (hf : f = max a p) (ht : t = min (a + n) (p + l.length)) (hft : f < t) :
    ((Own.splice b p l).drop a).take n = Own.splice ((b.drop a).take n) (f - a) ((l.drop (f - p)).take (t - f)) := by
  apply List.ext_getElem?
  intro i
  unfold Own.splice
  have e1 : (b.take p).length = p := by rw [List.length_take]; omega
  have e3 : (((b.drop a).take n).take (f - a)).length = f - a := by simp; omega
  have e4 : ((l.drop (f - p)).take (t - f)).length = t - f := by simp; omega
  rw [List.getElem?_take, List.append_assoc, List.append_assoc]
  by_cases hi : i < n
  · rw [if_pos hi, List.getElem?_drop]
    rcases Nat.lt_or_ge i (f - a) with c1 | c1
    · rw [List.getElem?_append_left (by omega : i < _)]
      rcases Nat.lt_or_ge (a + i) p with c2 | c2
      · rw [List.getElem?_append_left (by omega : a + i < _), List.getElem?_take, if_pos c2, List.getElem?_take, if_pos c1, List.getElem?_take, if_pos hi, List.getElem?_drop]
      · omega
    · rw [List.getElem?_append_right (by omega : _ ≤ i), e3]
      have c2 : p ≤ a + i := by omega
      rw [List.getElem?_append_right (by omega : _ ≤ a + i), e1]
      rcases Nat.lt_or_ge (i - (f - a)) (t - f) with c3 | c3
      · rw [List.getElem?_append_left (by omega : i - (f - a) < _), List.getElem?_append_left (by omega : a + i - p < _), List.getElem?_take, if_pos c3, List.getElem?_drop]
        congr 1
        omega
      · rw [List.getElem?_append_right (by omega : _ ≤ i - (f - a)), e4, List.getElem?_drop, List.getElem?_take]
        rw [if_pos (by omega), List.getElem?_drop]
        rcases Nat.lt_or_ge (a + i - p) l.length with c4 | c4
        · omega
        · rw [List.getElem?_append_right (by omega : _ ≤ a + i - p), List.getElem?_drop]
          congr 1
          omega
  · rw [if_neg hi, List.getElem?_eq_none]
    simp
    omega
theorem win_out {b l : List Int} {p a n : Nat} (_h1 : a + n ≤ b.length) (h2 : p + l.length ≤ b.length) (h : min (a + n) (p + l.length) ≤ max a p) :
    ((Own.splice b p l).drop a).take n = (b.drop a).take n := by
  apply List.ext_getElem?
  intro i
  unfold Own.splice
  have e1 : (b.take p).length = p := by rw [List.length_take]; omega
  rw [List.getElem?_take, List.getElem?_take]
  by_cases hi : i < n
  · rw [if_pos hi, if_pos hi, List.getElem?_drop, List.getElem?_drop, List.append_assoc]
    rcases Nat.lt_or_ge (a + i) p with c1 | c1
    · rw [List.getElem?_append_left (by omega : a + i < _), List.getElem?_take, if_pos c1]
    · rw [List.getElem?_append_right (by omega : _ ≤ a + i), e1, List.getElem?_append_right (by omega : _ ≤ a + i - p), List.getElem?_drop]
      congr 1
      omega
  · rw [if_neg hi, if_neg hi]
end Go.Proofs.YtmapdfommjcebaaGreat.Own
namespace Go.Proofs.YtmapdfommjcebaaGreat.Own
open Go.RowKit Go.Proofs.YtmapdfommjcebaaGreatW.PrintWords Go.Proofs.YtmapdfommjcebaaGreatW.PrintLast Go.Proofs.YtmapdfommjcebaaGreatW.PrintMore
attribute [local go_sem] max2_int min2_int max_two min_two
def nowTo (d : Dm) (k : Nat) : List Int := (d.q.take k).foldl (fun b w => Own.splice b w.1.toNat w.2) d.b
def winTo (d : Dm) (p n k : Nat) : List Int := ((nowTo d k).drop p).take n
theorem nowTo_length {d : Dm} (h : d.Ok) (k : Nat) : (nowTo d k).length = d.b.length := by
  unfold nowTo
  rw [now_put _ _ (fun w hw => h.fit w (List.mem_of_mem_take hw)), putAll_length]
theorem nowTo_succ (d : Dm) (k : Nat) (hk : k < d.q.length) : nowTo d (k + 1) = Own.splice (nowTo d k) d.q[k].1.toNat d.q[k].2 := by
  unfold nowTo
  rw [List.take_succ_eq_append_getElem hk, List.foldl_append]
  rfl
theorem OwnB.cap {W : World} {base n c : Nat} {A : Option Addr} {xs : List Int} (h : OwnB W base (.slice A n c) xs) : n = xs.length ∧ n ≤ c := by
  obtain ⟨A', c', he, hl, _⟩ := h.slice
  injection he with _ h2 h3
  subst h2 h3
  exact ⟨rfl, hl⟩
set_option maxHeartbeats 1600000 in
set_option maxRecDepth 100000 in
theorem Read_yes {S : Nat → Prop} {g gb cap : Nat} {vq : Value} {d : Dm} {w : World} (h : DiskAt w S g gb cap vq d) (hq : d.q.length ≤ 1000000) (p n : Nat) (hf : d.fits p n) :
    Calls Tryz.prog 37 #[.pointer (some ⟨g, 0, none⟩), .int .i64 p, .int .i64 n] w fun e w' => ∃ v, e = .returned (.tuple #[v, .int .i64 0]) ∧ OwnB w' w.heap.size v (d.read p n) ∧ Below w.heap.size w w' := by
  have H := Aside0.mk h
  have HF := Aside0.mk hf
  have HB := Aside0.mk (Below.refl w.heap.size w)
  obtain ⟨h0, h1, h2, h3⟩ := h.at_
  obtain ⟨A, c, hv⟩ := Kd.N_slice h.queue
  subst hv
  have hbl := h.ok.hi
  have hfn : p + n ≤ d.b.length := by have := hf.2.2; omega
  obtain ⟨A0, c0, hbe, hbc, hbC⟩ := h.bytes.slice
  injection hbe with hb1 hb2 hb3
  subst hb1 hb3
  clear hb2
  have hm1 := run_mid (some ⟨gb, 0, none⟩) d.b.length cap p (p + n) (by omega) (by omega) (by omega) hbc
  have hcm := Kd.C_mid (lo := p) (hi := p + n) hbC (by omega) hfn hbc
  obtain ⟨a1, ha1⟩ : ∃ a1, a1 = (if cap = (p : Int).toNat then (some ⟨gb, 0, none⟩ : Option Addr) else (some (⟨gb, 0, none⟩ : Addr)).map (·.add ((p : Int).toNat * 1))) := ⟨_, rfl⟩
  obtain ⟨c1, hc1⟩ : ∃ c1, c1 = cap - (p : Int).toNat := ⟨_, rfl⟩
  obtain ⟨l0, hl0⟩ : ∃ l0, l0 = (d.b.take (p + n)).drop p := ⟨_, rfl⟩
  have hl0n : l0.length = n := by rw [hl0, List.length_drop, List.length_take]; omega
  have e1 : ((p : Int) + n).toNat - (p : Int).toNat = l0.length := by omega
  rw [← ha1, ← hc1, e1] at hm1
  rw [← hl0, show (Kd.int .u8).sz = 1 from rfl] at hcm
  have HC := Aside0.mk (show (Kd.int .u8).C w a1 l0.length l0 by rw [ha1, Int.toNat_natCast]; exact hcm)
  have HN := Aside0.mk hl0n
  have HL := Aside0.mk (show l0 = winTo d p n 0 by rw [hl0, List.drop_take, Nat.add_sub_cancel_left]; rfl)
  clear h hf h2 h3 ha1 hc1 hl0 hl0n e1 hcm hbC
  go_enter Tryz.func37, Tryz.ntmps37
  go_wp2_with (first
    | (go_at_call 60; go_must (refine (ask_yes H.out p n HF.out).mono ?_); rintro e w' ⟨rfl, rfl⟩)
    | (go_at_call 55; go_must (refine (Clone_calls a1 c1 l0 _ (by exact HC.out) (by rw [HN.out]; omega)).mono ?_); rintro e w1 ⟨v1, rfl, ho, hb⟩; obtain ⟨A1, c1, rfl, hc1, _⟩ := ho.slice; have HO := Aside0.mk ho; clear HB ho; have HB := Aside0.mk hb; obtain ⟨h0, h1, h2, h3⟩ := (H.out.below hb).at_; clear hb))
  go_loopw [36] (fun v36 wr => ∃ (k : Nat), k ≤ d.q.length ∧ v36 = .int .i64 k ∧ Aside0 (OwnB wr w.heap.size (.slice A1 l0.length c1) (winTo d p n k)) ∧ Aside0 (Below w.heap.size w wr)) (fun v36 _ => d.q.length - (intOf v36).toNat)
  case atStart => exact ⟨0, by omega, rfl, ⟨by rw [← HL.out]; exact HO.out⟩, HB⟩
  case round =>
    clear HO HB h0 h1 h2 h3
    obtain ⟨k, hk, rfl, HO, HB⟩ := hrel
    by_cases hlt : k < d.q.length
    · obtain ⟨ad, rfl⟩ := q_ptr H.out.queue (by omega)
      obtain ⟨A2, c2, g1, g2, hl2, hF2⟩ := q_at (H.out.below HB.out).queue k hlt
      have hfit := H.out.ok.fit _ (List.getElem_mem hlt)
      obtain ⟨z, hz⟩ := Int.eq_ofNat_of_zero_le hfit.1
      have HS := Aside0.mk (nowTo_succ d k hlt)
      have hnl := nowTo_length H.out.ok k
      have HW := Aside0.mk hnl
      generalize hqy : d.q[k].2 = y at g2 hl2 hF2 hfit HS
      rw [hz] at g1 hfit HS
      have hy : z + y.length ≤ d.b.length := by have := hfit.2; omega
      obtain ⟨f, hf⟩ : ∃ f, f = max p z := ⟨_, rfl⟩
      obtain ⟨t, ht⟩ : ∃ t, t = min (p + n) (z + y.length) := ⟨_, rfl⟩
      have r1 : (if (p : Int) < z then (z : Int) else p) = f := by split <;> omega
      have r2 : (if (z : Int) + y.length < (p : Int) + n then (z : Int) + y.length else (p : Int) + n) = t := by split <;> omega
      have r3 : (if p < z then (z : Int) else p) = f := by split <;> omega
      have r4 : (if z + y.length < p + n then (z : Int) + y.length else (p : Int) + n) = t := by split <;> omega
      have b1 : p ≤ f := by omega
      have b2 : z ≤ f := by omega
      have b3 : t ≤ p + n := by omega
      have b4 : t ≤ z + y.length := by omega
      have HFT := Aside0.mk hf
      have HTT := Aside0.mk ht
      have HF2 := Aside0.mk hF2
      clear hfit hz hqy hnl hf ht hF2
      by_cases hft : f < t
      · have hwl : (winTo d p n k).length = n := by unfold winTo; rw [List.length_take, List.length_drop, HW.out]; omega
        obtain ⟨go, cap', hgo, hgob, _⟩ := World.ownsRow.form HO.out (by rw [hwl]; omega)
        injection hgo with q1 q2 q3
        subst q1 q3
        have hl0n := HN.out
        have hoc : n ≤ c1 := by
          have := HO.out.cap
          omega
        have m1 := run_mid (some ⟨go, 0, none⟩) l0.length c1 ((f : Int) - p) ((t : Int) - p) (by omega) (by omega) (by omega) (by omega)
        rw [if_neg (by omega), show ((f : Int) - p).toNat = f - p by omega, show ((t : Int) - p).toNat - (f - p) = t - f by omega, Option.map_some, Nat.mul_one, add_off, Nat.zero_add] at m1
        have m2 := run_mid A2 y.length c2 ((f : Int) - z) ((t : Int) - z) (by omega) (by omega) (by omega) hl2
        obtain ⟨ys, hys⟩ : ∃ ys, ys = (y.drop (f - z)).take (t - f) := ⟨_, rfl⟩
        obtain ⟨sp, hsp⟩ : ∃ sp, sp = A2.map (·.add (f - z)) := ⟨_, rfl⟩
        rw [if_neg (by omega), show ((f : Int) - z).toNat = f - z by omega, show ((t : Int) - z).toNat - (f - z) = t - f by omega, Nat.mul_one, ← hsp] at m2
        have hC2 := Kd.C_mid (lo := f - z) (hi := t - z) (Kd.F_now HF2.out) (by omega) (by omega) hl2
        rw [if_neg (by omega), show (Kd.int .u8).sz = 1 from rfl, Nat.mul_one, ← hsp, List.drop_take, show t - z - (f - z) = t - f by omega, ← hys] at hC2
        have hyl : ys.length = t - f := by rw [hys, List.length_take, List.length_drop]; omega
        have HC2 := Aside0.mk hC2
        have HYL := Aside0.mk hyl
        have HWIN := Aside0.mk (show Own.splice (winTo d p n k) (f - p) ys = winTo d p n (k + 1) by
          unfold winTo
          rw [HS.out, Int.toNat_natCast, win_in (by rw [HW.out]; exact hfn) (by rw [HW.out]; exact hy) HFT.out HTT.out hft, hys])
        have HWL := Aside0.mk hwl
        clear hC2 hyl hys hsp hwl q2
        go_wp2_with fail
        go_region
        go_wp2_with fail
        have i1 : IntKind.i64.wrap ((f : Int) - p) = (f : Int) - p := IntWalk.i64_in _ (by omega)
        have i2 : IntKind.i64.wrap ((t : Int) - p) = (t : Int) - p := IntWalk.i64_in _ (by omega)
        have i3 : IntKind.i64.wrap ((f : Int) - z) = (f : Int) - z := IntWalk.i64_in _ (by omega)
        have i4 : IntKind.i64.wrap ((t : Int) - z) = (t : Int) - z := IntWalk.i64_in _ (by omega)
        clear hl0n
        go_region_law (refine copy_step rfl (.tmp 64) (.tmp 75) rfl go l0.length c1 (f - p) (t - f) _ _ sp (winTo d p n k) ys rfl rfl (by exact HO.out.below (below_alloc (Below.refl _ _) _).drew.drew) HYL.out (by exact Kd.C_below HC2.out (below_alloc (Below.refl _ _) _).drew.drew) (by omega) (by rw [HWL.out]; omega) (by rw [HWL.out, HN.out]) ?_; intro w5 O5 G5; have HO5 := Aside0.mk O5; have HG5 := Aside0.mk G5; clear O5 G5)
        all_goals
          go_wp2
          go_roundw
          case rel => exact ⟨k + 1, by omega, by go_num, ⟨by rw [← HWIN.out]; exact HO5.out⟩, ⟨pw_below_grown (below_alloc HB.out _).drew.drew _ (below_alloc HB.out _).drew.drew.size HG5.out (fun q e => by injection e with e; omega)⟩⟩
          case measure => simp [intOf]; omega
      · have HWIN := Aside0.mk (show winTo d p n (k + 1) = winTo d p n k by
          unfold winTo
          rw [HS.out, Int.toNat_natCast, win_out (by rw [HW.out]; exact hfn) (by rw [HW.out]; exact hy) (by have := HFT.out; have := HTT.out; omega)])
        go_wp2_with fail
        go_region
        go_wp2
        go_roundw
        case rel => exact ⟨k + 1, by omega, by go_num, ⟨by rw [HWIN.out]; exact HO.out.below (below_alloc (Below.refl _ _) _).drew⟩, ⟨(below_alloc HB.out _).drew⟩⟩
        case measure => simp [intOf]; omega
    · obtain rfl : k = d.q.length := by omega
      go_wp2_with fail
      go_ret2
      refine ⟨_, rfl, ?_, HB.out⟩
      have : winTo d p n d.q.length = d.read p n := by unfold winTo nowTo; rw [List.take_length]; rfl
      rw [← this]
      exact HO.out
end Go.Proofs.YtmapdfommjcebaaGreat.Own
namespace Go.Proofs.YtmapdfommjcebaaGreat.Own
open Go.RowKit Go.Proofs.YtmapdfommjcebaaGreatW.PrintWords Go.Proofs.YtmapdfommjcebaaGreatW.PrintLast Go.Proofs.YtmapdfommjcebaaGreatW.PrintMore
set_option maxHeartbeats 400000 in
set_option maxRecDepth 100000 in
theorem Flush_at {S : Nat → Prop} {g gb cap : Nat} {vq : Value} {d : Dm} {w : World} (h : DiskAt w S g gb cap vq d) (hq : d.q.length ≤ 1000000) :
    Calls Tryz.prog 32 #[.pointer (some ⟨g, 0, none⟩)] w fun e w' => e = .returned (.int .i64 0) ∧ DiskAt w' S g gb cap (.slice none 0 0) d.flush ∧ Chg S w w' := by
  have H := Aside0.mk h
  have e0 : ((d.b.length : Int) == 0) = false := beq_eq_false_iff_ne.mpr (by have := h.ok.lo; omega)
  clear h
  go_enter Tryz.func32, Tryz.ntmps32
  go_wp2_with (first
    | (go_at_call 39; refine (Size_at H.out).mono ?_; rintro e w' ⟨rfl, rfl⟩)
    | (go_at_call 62; refine (Waits_at H.out hq).mono ?_; rintro e w1 ⟨rfl, hb⟩; have HB := Aside0.mk hb; clear hb)
    | (go_at_call 61; go_must (refine (settle_at (H.out.below HB.out) hq d.waits).mono ?_); rintro e w2 ⟨rfl, h1, h2⟩; have H1 := Aside0.mk h1; have H2 := Aside0.mk h2; obtain ⟨p0, p1, p2, p3⟩ := h1.at_; have f2 := h1.free 2; have p4 : w2.cell? ⟨g, 2, none⟩ = some (.int .i64 d.fl) := p2; clear h1 h2 p0 p1 p2 p3))
  go_ret
  have hb : (d.settle d.waits).b = d.now := Dm.settle_all H.out.ok (Int.le_refl _)
  refine ⟨rfl, ?_, ((Chg.of_below S HB.out).then_ H2.out (fun k hk => .inl hk)).setCell (.inl H1.out.inG) _⟩
  have hd := H1.out
  refine ⟨?_, ?_, Kd.N_nil _ _ _ _ _, Dm.ok_flush H.out.ok, hd.inG, hd.inB, hd.ne, ?_⟩
  · have := hd.cells
    rw [hb] at this
    exact blk_put this 2 _ rfl
  · have := hd.bytes
    rw [hb] at this
    refine own_move this (fun k hk => ?_)
    simp [Value.ownBlock] at hk
    subst hk
    exact Below.heap_setCell _ _ _ _ (by exact fun e => hd.ne e.symm)
  · intro k hk
    have := hd.lt k hk
    simpa [World.setCell] using this
/-! The same contracts, of a disk whose own blocks are not named. -/
theorem Write_is {S : Nat → Prop} {g : Nat} {d : Dm} {w : World} (h : IsDisk w S g d) (hq : d.q.length ≤ 1000000) (p : Int) (A : Option Addr) (c : Nat) (l : List Int)
    (hl : (Kd.int .u8).C w A l.length l) (hf : d.fits p l.length) :
    Calls Tryz.prog 30 #[.pointer (some ⟨g, 0, none⟩), .int .i64 p, .slice A l.length c] w fun e w' => e = .returned (.int .i64 0) ∧ IsDisk w' (fun k => S k ∨ (w.heap.size ≤ k ∧ k < w'.heap.size)) g (d.write p l) ∧ Chg S w w' := by
  obtain ⟨gb, cap, vq, h⟩ := h
  refine (Write_yes h hq p A c l hl hf).mono ?_
  rintro e w' ⟨rfl, ⟨vq', h1⟩, h2⟩
  exact ⟨rfl, ⟨gb, cap, vq', h1⟩, h2⟩
theorem WriteNo_is {S : Nat → Prop} {g : Nat} {d : Dm} {w : World} (h : IsDisk w S g d) (p : Int) (A : Option Addr) (c n : Nat) (hn : n ≤ 9223372036854775807) (hf : ¬ d.fits p n) :
    Calls Tryz.prog 30 #[.pointer (some ⟨g, 0, none⟩), .int .i64 p, .slice A n c] w fun e w' => e = .returned (.int .i64 1) ∧ w = w' := by
  obtain ⟨gb, cap, vq, h⟩ := h
  exact Write_no h p A c n hn hf
theorem Read_is {S : Nat → Prop} {g : Nat} {d : Dm} {w : World} (h : IsDisk w S g d) (hq : d.q.length ≤ 1000000) (p n : Nat) (hf : d.fits p n) :
    Calls Tryz.prog 37 #[.pointer (some ⟨g, 0, none⟩), .int .i64 p, .int .i64 n] w fun e w' => ∃ v, e = .returned (.tuple #[v, .int .i64 0]) ∧ OwnB w' w.heap.size v (d.read p n) ∧ Below w.heap.size w w' := by
  obtain ⟨gb, cap, vq, h⟩ := h
  exact Read_yes h hq p n hf
theorem Flush_is {S : Nat → Prop} {g : Nat} {d : Dm} {w : World} (h : IsDisk w S g d) (hq : d.q.length ≤ 1000000) :
    Calls Tryz.prog 32 #[.pointer (some ⟨g, 0, none⟩)] w fun e w' => e = .returned (.int .i64 0) ∧ IsDisk w' S g d.flush ∧ Chg S w w' := by
  obtain ⟨gb, cap, vq, h⟩ := h
  refine (Flush_at h hq).mono ?_
  rintro e w' ⟨rfl, h1, h2⟩
  exact ⟨rfl, ⟨gb, cap, _, h1⟩, h2⟩
theorem Waits_is {S : Nat → Prop} {g : Nat} {d : Dm} {w : World} (h : IsDisk w S g d) (hq : d.q.length ≤ 1000000) :
    Calls Tryz.prog 62 #[.pointer (some ⟨g, 0, none⟩)] w fun e w' => e = .returned (.int .i64 d.waits) ∧ Below w.heap.size w w' := by
  obtain ⟨gb, cap, vq, h⟩ := h
  exact Waits_at h hq
theorem Size_is {S : Nat → Prop} {g : Nat} {d : Dm} {w : World} (h : IsDisk w S g d) :
    Calls Tryz.prog 39 #[.pointer (some ⟨g, 0, none⟩)] w fun e w' => e = .returned (.int .i64 d.b.length) ∧ w = w' := by
  obtain ⟨gb, cap, vq, h⟩ := h
  exact Size_at h
end Go.Proofs.YtmapdfommjcebaaGreat.Own
namespace Go.Proofs.YtmapdfommjcebaaGreat.Own
open Go.RowKit Go.Proofs.YtmapdfommjcebaaGreatW.PrintWords Go.Proofs.YtmapdfommjcebaaGreatW.PrintLast Go.Proofs.YtmapdfommjcebaaGreatW.PrintMore
/-- A thing in memory: what it says of a world and of the blocks that are its own. -/
structure Thing where
  at_ : World → (Nat → Prop) → Prop
  chg : ∀ {W W' : World} {S T : Nat → Prop}, at_ W S → Chg T W W' → (∀ k, S k → ¬ T k) → at_ W' S
  lt : ∀ {W : World} {S : Nat → Prop}, at_ W S → ∀ k, S k → k < W.heap.size
def All (W : World) : List Thing → (Nat → Prop) → Prop
  | [], _ => True
  | P :: Ps, S => ∃ S1 S2, P.at_ W S1 ∧ All W Ps S2 ∧ (∀ k, S1 k → ¬ S2 k) ∧ (∀ k, S1 k ∨ S2 k → S k)
theorem All.mono {W : World} {S T : Nat → Prop} (hs : ∀ k, S k → T k) : ∀ {Ps : List Thing}, All W Ps S → All W Ps T
  | [], _ => trivial
  | _ :: _, ⟨S1, S2, h1, h2, h3, h4⟩ => ⟨S1, S2, h1, h2, h3, fun k hk => hs k (h4 k hk)⟩
theorem All.chg {W W' : World} {T : Nat → Prop} (hc : Chg T W W') : ∀ {Ps : List Thing} {S : Nat → Prop}, All W Ps S → (∀ k, S k → ¬ T k) → All W' Ps S
  | [], _, _, _ => trivial
  | P :: _, _, ⟨S1, S2, h1, h2, h3, h4⟩, hn => ⟨S1, S2, P.chg h1 hc (fun k hk => hn k (h4 k (.inl hk))), All.chg hc h2 (fun k hk => hn k (h4 k (.inr hk))), h3, h4⟩
/-- The things that a call has made, all above what was there when it began; and what was there is as it was. -/
def Here (w W : World) (Ps : List Thing) : Prop := ∃ S, All W Ps S ∧ (∀ k, S k → w.heap.size ≤ k ∧ k < W.heap.size) ∧ Below w.heap.size w W
section
variable {w W W' : World} {P P' Q R : Thing} {Ps Qs : List Thing}
theorem Here.nil (w : World) : Here w w [] := ⟨fun _ => False, trivial, fun _ h => h.elim, Below.refl _ _⟩
theorem Here.below (h : Here w W Ps) : Below w.heap.size w W := by obtain ⟨_, _, _, h⟩ := h; exact h
theorem Here.then_ (h : Here w W Ps) (hb : Below W.heap.size W W') : Here w W' Ps := by
  obtain ⟨S, h1, h2, h3⟩ := h
  exact ⟨S, h1.chg (Chg.of_below (fun _ => False) hb) (fun _ _ hf => hf), fun k hk => ⟨(h2 k hk).1, Nat.lt_of_lt_of_le (h2 k hk).2 hb.size⟩, below_step h3 hb⟩
theorem Here.drew (h : Here w W Ps) : Here w W.drew Ps := h.then_ (Below.refl _ _).drew
theorem Here.alloc (h : Here w W Ps) (o : Obj) : Here w (W.alloc o) Ps := h.then_ (below_alloc (Below.refl _ _) o)
/-- What the first thing says. -/
theorem Here.get (h : Here w W (P :: Ps)) : ∃ S, P.at_ W S ∧ (∀ k, S k → w.heap.size ≤ k) ∧
    ∀ {W' : World} {P' : Thing} {S' : Nat → Prop}, P'.at_ W' S' → Chg S W W' → (∀ k, S' k → S k ∨ W.heap.size ≤ k) → Here w W' (P' :: Ps) := by
  obtain ⟨S, ⟨S1, S2, h1, h2, h3, h4⟩, h5, h6⟩ := h
  refine ⟨S1, h1, fun k hk => (h5 k (h4 k (.inl hk))).1, fun {W' P' S'} hp hc hs => ?_⟩
  refine ⟨fun k => S' k ∨ S2 k, ⟨S', S2, hp, h2.chg hc (fun k hk hk1 => h3 k hk1 hk), fun k hk hk2 => ?_, fun k hk => hk⟩, fun k hk => ?_, ?_⟩
  · rcases hs k hk with hk1 | hk1
    · exact h3 k hk1 hk2
    · have := (h5 k (h4 k (.inr hk2))).2
      omega
  · rcases hk with hk | hk
    · refine ⟨?_, P'.lt hp k hk⟩
      rcases hs k hk with hk1 | hk1
      · exact (h5 k (h4 k (.inl hk1))).1
      · exact Nat.le_trans h6.size hk1
    · have := h5 k (h4 k (.inr hk))
      exact ⟨this.1, Nat.lt_of_lt_of_le this.2 hc.size⟩
  · exact hc.toBelow h6 h6.size (fun k hk => (h5 k (h4 k (.inl hk))).1)
/-- A new thing beside the others. -/
theorem Here.add (h : Here w W Ps) {S' : Nat → Prop} (hp : P.at_ W' S') (hb : Below W.heap.size W W') (hs : ∀ k, S' k → W.heap.size ≤ k) : Here w W' (P :: Ps) := by
  obtain ⟨S, h1, h2, h3⟩ := h
  refine ⟨fun k => S' k ∨ S k, ⟨S', S, hp, h1.chg (Chg.of_below (fun _ => False) hb) (fun _ _ hf => hf), fun k hk hk2 => ?_, fun k hk => hk⟩, fun k hk => ?_, below_step h3 hb⟩
  · have := hs k hk
    have := (h2 k hk2).2
    omega
  · rcases hk with hk | hk
    · exact ⟨Nat.le_trans h3.size (hs k hk), P.lt hp k hk⟩
    · exact ⟨(h2 k hk).1, Nat.lt_of_lt_of_le (h2 k hk).2 hb.size⟩
theorem Here.drop (h : Here w W (P :: Ps)) : Here w W Ps := by
  obtain ⟨S, ⟨S1, S2, h1, h2, h3, h4⟩, h5, h6⟩ := h
  exact ⟨S2, h2, fun k hk => h5 k (h4 k (.inr hk)), h6⟩
theorem Here.swap (h : Here w W (P :: Q :: Ps)) : Here w W (Q :: P :: Ps) := by
  obtain ⟨S, ⟨S1, S2, h1, ⟨S3, S4, h2, h3, h4, h5⟩, h6, h7⟩, h8, h9⟩ := h
  refine ⟨S, ⟨S3, fun k => S1 k ∨ S4 k, h2, ⟨S1, S4, h1, h3, fun k hk hk2 => h6 k hk (h5 k (.inr hk2)), fun _ hk => hk⟩, fun k hk hk2 => ?_, fun k hk => ?_⟩, h8, h9⟩
  · rcases hk2 with hk2 | hk2
    · exact h6 k hk2 (h5 k (.inl hk))
    · exact h4 k hk hk2
  · rcases hk with hk | hk | hk
    · exact h7 k (.inr (h5 k (.inl hk)))
    · exact h7 k (.inl hk)
    · exact h7 k (.inr (h5 k (.inr hk)))
/-- The second one is put behind the third, .. : what stands first stays. -/
theorem Here.under (f : ∀ {W : World} {S : Nat → Prop}, All W Ps S → All W Qs S) (h : Here w W (P :: Ps)) : Here w W (P :: Qs) := by
  obtain ⟨S, ⟨S1, S2, h1, h2, h3, h4⟩, h5, h6⟩ := h
  exact ⟨S, ⟨S1, S2, h1, f h2, h3, h4⟩, h5, h6⟩
theorem All.swap {S : Nat → Prop} : All W (P :: Q :: Ps) S → All W (Q :: P :: Ps) S := by
  rintro ⟨S1, S2, h1, ⟨S3, S4, h2, h3, h4, h5⟩, h6, h7⟩
  refine ⟨S3, fun k => S1 k ∨ S4 k, h2, ⟨S1, S4, h1, h3, fun k hk hk2 => h6 k hk (h5 k (.inr hk2)), fun _ hk => hk⟩, fun k hk hk2 => ?_, fun k hk => ?_⟩
  · rcases hk2 with hk2 | hk2
    · exact h6 k hk2 (h5 k (.inl hk))
    · exact h4 k hk hk2
  · rcases hk with hk | hk | hk
    · exact h7 k (.inr (h5 k (.inl hk)))
    · exact h7 k (.inl hk)
    · exact h7 k (.inr (h5 k (.inr hk)))
theorem Here.third (h : Here w W (P :: Q :: R :: Ps)) : Here w W (R :: P :: Q :: Ps) := (h.under All.swap).swap
end
/-- A disk. -/
def DiskT (g : Nat) (d : Dm) : Thing where
  at_ W S := IsDisk W S g d
  chg h hc hn := h.chg hc hn
  lt h := h.lt
/-- Bytes of one's own. -/
def BytesT (v : Value) (l : List Int) : Thing where
  at_ W S := OwnB W 0 v l ∧ ∀ k, S k ↔ v.ownBlock = some k
  chg h hc hn := ⟨h.1.chg hc (fun k hk => hn k ((h.2 k).2 hk)), h.2⟩
  lt h k hk := own_lt h.1 k ((h.2 k).1 hk)
section
variable {w W W' : World} {Ps : List Thing} {v : Value} {l : List Int} {base : Nat}
theorem Here.bytes (h : Here w W (BytesT v l :: Ps)) : OwnB W 0 v l := by
  obtain ⟨S, h1, _⟩ := h.get
  exact h1.1
theorem Here.addBytes (h : Here w W Ps) (hb : Below W.heap.size W W') (ho : OwnB W' W.heap.size v l) : Here w W' (BytesT v l :: Ps) :=
  h.add (P := BytesT v l) (S' := fun k => v.ownBlock = some k) ⟨ho.lower (Nat.zero_le _), fun _ => Iff.rfl⟩ hb (fun k hk => own_base ho k hk)
end
/-! ### The disk's calls, beside other things -/
section
variable {w W : World} {Ps : List Thing} {g : Nat} {d : Dm}
theorem New_here (h : Here w W Ps) (n : Nat) (h1 : 64 ≤ n) (h2 : n ≤ 262144) :
    Calls Tryz.prog 13 #[.int .i64 n] W fun e W' => ∃ g, e = .returned (.tuple #[.pointer (some ⟨g, 0, none⟩), .int .i64 0]) ∧ Here w W' (DiskT g (Dm.new n) :: Ps) := by
  refine (New_yes n W h1 h2).mono ?_
  rintro e W' ⟨g, S, rfl, hd, hs, hb⟩
  exact ⟨g, rfl, h.add (P := DiskT g (Dm.new n)) hd hb hs⟩
theorem Write_here (h : Here w W (DiskT g d :: Ps)) (hq : d.q.length ≤ 1000000) (p : Int) (A : Option Addr) (c : Nat) (l : List Int) (hl : (Kd.int .u8).C W A l.length l) (hf : d.fits p l.length) :
    Calls Tryz.prog 30 #[.pointer (some ⟨g, 0, none⟩), .int .i64 p, .slice A l.length c] W fun e W' => e = .returned (.int .i64 0) ∧ Here w W' (DiskT g (d.write p l) :: Ps) := by
  obtain ⟨S, h1, _, h2⟩ := h.get
  refine (Write_is h1 hq p A c l hl hf).mono ?_
  rintro e W' ⟨rfl, hd, hc⟩
  exact ⟨rfl, h2 (P' := DiskT g (d.write p l)) hd hc (fun k hk => hk.imp id (fun h => h.1))⟩
theorem WriteNo_here (h : Here w W (DiskT g d :: Ps)) (p : Int) (A : Option Addr) (c n : Nat) (hn : n ≤ 9223372036854775807) (hf : ¬ d.fits p n) :
    Calls Tryz.prog 30 #[.pointer (some ⟨g, 0, none⟩), .int .i64 p, .slice A n c] W fun e W' => e = .returned (.int .i64 1) ∧ W = W' := by
  obtain ⟨S, h1, _, _⟩ := h.get
  exact WriteNo_is h1 p A c n hn hf
theorem Read_here (h : Here w W (DiskT g d :: Ps)) (hq : d.q.length ≤ 1000000) (p n : Nat) (hf : d.fits p n) :
    Calls Tryz.prog 37 #[.pointer (some ⟨g, 0, none⟩), .int .i64 p, .int .i64 n] W fun e W' => ∃ v, e = .returned (.tuple #[v, .int .i64 0]) ∧ Here w W' (BytesT v (d.read p n) :: DiskT g d :: Ps) := by
  obtain ⟨S, h1, _, _⟩ := h.get
  refine (Read_is h1 hq p n hf).mono ?_
  rintro e W' ⟨v, rfl, ho, hb⟩
  exact ⟨v, rfl, h.addBytes hb ho⟩
theorem Flush_here (h : Here w W (DiskT g d :: Ps)) (hq : d.q.length ≤ 1000000) :
    Calls Tryz.prog 32 #[.pointer (some ⟨g, 0, none⟩)] W fun e W' => e = .returned (.int .i64 0) ∧ Here w W' (DiskT g d.flush :: Ps) := by
  obtain ⟨S, h1, _, h2⟩ := h.get
  refine (Flush_is h1 hq).mono ?_
  rintro e W' ⟨rfl, hd, hc⟩
  exact ⟨rfl, h2 (P' := DiskT g d.flush) hd hc (fun k hk => .inl hk)⟩
theorem Waits_here (h : Here w W (DiskT g d :: Ps)) (hq : d.q.length ≤ 1000000) :
    Calls Tryz.prog 62 #[.pointer (some ⟨g, 0, none⟩)] W fun e W' => e = .returned (.int .i64 d.waits) ∧ Here w W' (DiskT g d :: Ps) := by
  obtain ⟨S, h1, _, _⟩ := h.get
  refine (Waits_is h1 hq).mono ?_
  rintro e W' ⟨rfl, hb⟩
  exact ⟨rfl, h.then_ hb⟩
theorem Size_here (h : Here w W (DiskT g d :: Ps)) :
    Calls Tryz.prog 39 #[.pointer (some ⟨g, 0, none⟩)] W fun e W' => e = .returned (.int .i64 d.b.length) ∧ W = W' := by
  obtain ⟨S, h1, _, _⟩ := h.get
  exact Size_is h1
end
end Go.Proofs.YtmapdfommjcebaaGreat.Own
