/- Slices of slices of bytes that a call puts together, and cuts of bytes. A disk as plain lists: what it has, the writes that wait; a write, what is read, a crash, a flush. What a call may turn: the blocks of S and what is new; a disk in memory. -/
import Derived.Test.YtmbemlpmfklddaaBase
import Derived.RowKit
namespace Go.Proofs.Ytmbemlpmfklddaa.Own
open Go.RowKit Go.Proofs.YtmbemlpmfklddaaW.PrintWords Go.Proofs.YtmbemlpmfklddaaW.PrintLast Go.Proofs.YtmbemlpmfklddaaW.PrintMore
theorem info22 : (Try.prog.info? 22).map (fun i => (i.zero, i.size, i.bytes)) = some (some (.slice none 0 0), 1, 24) := by kernel_rfl
/-- Bytes of a length, as a kind. -/
abbrev BL := Kd.slice 5 (Kd.int .u8)
section
variable {ops : Array Oper} {rest : List Oper} {o : Oper} {a : Act} {Q : Exit → Act → World → Prop}
theorem app_slice {w0 W : World} (base : Nat) (hgd : o.guard = none) (s x : Operand) (ho : o.op = .call { callee := .builtin .append, args := #[s, x], argTypes := #[29, 29] })
    (v : Value) (L : List (List Int)) (l : List Int) (A : Option Addr) (c : Nat) (ok okp : Nat → Prop) (hs : a.eval s = v) (hx : a.eval x = .slice (some ⟨W.heap.size, 0, none⟩) 1 1)
    (hc : l.length ≤ c) (hF : Kd.F (Kd.int .u8) W okp A l.length l) (hokp : ∀ k, okp k → ok k ∧ some k ≠ v.ownBlock) (hfresh : ∀ k, W.heap.size ≤ k → ok k)
    (HO : Kd.N BL 22 W base ok v L) (HB : Below base w0 W) (hbase : base ≤ W.heap.size) (hl : L.length + 1 ≤ 5000000000000)
    (h : ∀ v1 w1, Kd.N BL 22 w1 base ok v1 (L ++ [l]) → Below base w0 w1 → W.grownBy w1 v.ownBlock → (v1.ownBlock = v.ownBlock ∨ ∃ b, v1.ownBlock = some b ∧ W.heap.size ≤ b) → wpList Try.prog ops Q rest (a.put o.dst v1) w1) :
    wpList Try.prog ops Q (o :: rest) a (W.alloc (.cells #[.slice A l.length c] 22)) :=
  Kd.N_append BL base hgd s x 29 22 (.slice none 0 0) 24 ho Try.underlying29 info22 rfl (by decide) (by omega) v L l [.slice A l.length c] ok okp hs hx (Kd.FK_slice_mk hc hF) hokp hfresh HO HB hbase (by omega) h
end
theorem run_take (A : Option Addr) (n c : Nat) (m : Int) (h0 : 0 ≤ m) (hm : m ≤ n) (hc : n ≤ c) :
    ∀ W : World, (Instr.slice 22 (.slice A n c) none (some (.int .i64 m)) none).run Try.prog W = .ok (.slice A m.toNat c) W := by
  obtain ⟨i0, hi, hzz⟩ := Option.map_eq_some_iff.1 info5
  exact cut_to 22 5 .i64 Try.underlying22 hi A n c m h0 hm hc
theorem run_drop (A : Option Addr) (n c : Nat) (m : Int) (h0 : 0 ≤ m) (hm : m ≤ n) :
    ∀ W : World, (Instr.slice 22 (.slice A n c) (some (.int .i64 m)) none none).run Try.prog W = .ok (.slice (if c = m.toNat then A else A.map (·.add (m.toNat * 1))) (n - m.toNat) (c - m.toNat)) W := by
  obtain ⟨i0, hi, hzz⟩ := Option.map_eq_some_iff.1 info5
  simp only [Prod.mk.injEq] at hzz
  exact cut_from 22 5 .i64 Try.underlying22 hi 1 hzz.2.1 A n c m h0 hm
end Go.Proofs.Ytmbemlpmfklddaa.Own
namespace Go.Proofs.Ytmbemlpmfklddaa.Own
open Go.RowKit
/-- A disk: its bytes, the writes that wait, two counts. -/
structure Dm where
  b : List Int
  q : List (Int × List Int)
  fl : Int
  wr : Int
def splice (b : List Int) (p : Nat) (l : List Int) : List Int := b.take p ++ l ++ b.drop (p + l.length)
/-- What waits, byte by byte, with its place. -/
def pendOf (w : Int × List Int) : List (Nat × Int) := w.2.zipIdx.map fun c => (w.1.toNat + c.2, c.1)
def pend (q : List (Int × List Int)) : List (Nat × Int) := q.flatMap pendOf
def putAll (b : List Int) (l : List (Nat × Int)) : List Int := l.foldl (fun b p => b.set p.1 p.2) b
namespace Dm
def new (n : Nat) : Dm := ⟨List.replicate n 0, [], 0, 0⟩
def fits (d : Dm) (p n : Int) : Prop := 0 ≤ p ∧ 0 ≤ n ∧ p + n ≤ d.b.length
instance (d : Dm) (p n : Int) : Decidable (d.fits p n) := by unfold fits; infer_instance
def write (d : Dm) (p : Int) (l : List Int) : Dm := { d with q := d.q ++ [(p, l)], wr := wrap64 (d.wr + l.length) }
def now (d : Dm) : List Int := d.q.foldl (fun b w => splice b w.1.toNat w.2) d.b
def read (d : Dm) (p n : Nat) : List Int := (d.now.drop p).take n
def settle (d : Dm) (last : Int) : Dm := { d with b := putAll d.b ((pend d.q).take last.toNat), q := [] }
def waits (d : Dm) : Nat := (d.q.map fun w => w.2.length).sum
def flush (d : Dm) : Dm := { d with b := d.now, q := [], fl := wrap64 (d.fl + 1) }
/-- Each write fits; the disk is of a size that may be. -/
structure Ok (d : Dm) : Prop where
  lo : 64 ≤ d.b.length
  hi : d.b.length ≤ 262144
  fit : ∀ w ∈ d.q, 0 ≤ w.1 ∧ w.1 + w.2.length ≤ d.b.length
end Dm
theorem putAll_length (l : List (Nat × Int)) : ∀ b : List Int, (putAll b l).length = b.length := by
  induction l with
  | nil => intro b; rfl
  | cons p l ih => intro b; show (putAll (b.set p.1 p.2) l).length = _; rw [ih, List.length_set]
theorem putAll_append (b : List Int) (l m : List (Nat × Int)) : putAll b (l ++ m) = putAll (putAll b l) m := by simp [putAll]
theorem pendOf_length (w : Int × List Int) : (pendOf w).length = w.2.length := by simp [pendOf]
theorem pend_append (q r : List (Int × List Int)) : pend (q ++ r) = pend q ++ pend r := by simp [pend]
theorem pend_length (q : List (Int × List Int)) : (pend q).length = (q.map fun w => w.2.length).sum := by
  induction q with
  | nil => rfl
  | cons w q ih =>
    show (pendOf w ++ pend q).length = _
    rw [List.length_append, pendOf_length, ih]
    simp
theorem splice_length {b : List Int} {p : Nat} {l : List Int} (h : p + l.length ≤ b.length) : (splice b p l).length = b.length := by
  simp [splice]; omega
theorem putAll_shift (l : List Int) : ∀ (b : List Int) (p k : Nat), p + k + l.length ≤ b.length →
    putAll b ((l.zipIdx k).map fun c => (p + c.2, c.1)) = splice b (p + k) l := by
  induction l with
  | nil => intro b p k _; simp [putAll, splice]
  | cons c l ih =>
    intro b p k h
    rw [List.length_cons] at h
    rw [List.zipIdx_cons, List.map_cons]
    show putAll (b.set (p + k) c) ((l.zipIdx (k + 1)).map fun c => (p + c.2, c.1)) = _
    rw [ih _ _ _ (by rw [List.length_set]; omega)]
    unfold splice
    have h1 : (b.set (p + k) c).take (p + (k + 1)) = b.take (p + k) ++ [c] := by
      rw [List.set_eq_take_append_cons_drop, if_pos (by omega), show p + (k + 1) = (b.take (p + k)).length + 1 by rw [List.length_take]; omega, List.take_length_add_append]
      simp
    rw [h1, List.drop_set_of_lt (by omega)]
    simp [Nat.add_assoc, Nat.add_comm 1]
theorem putAll_pendOf {b : List Int} {w : Int × List Int} (h : w.1.toNat + w.2.length ≤ b.length) : putAll b (pendOf w) = splice b w.1.toNat w.2 := by
  have := putAll_shift w.2 b w.1.toNat 0 (by omega)
  simpa [pendOf] using this
theorem now_put (q : List (Int × List Int)) : ∀ b : List Int, (∀ w ∈ q, 0 ≤ w.1 ∧ w.1 + w.2.length ≤ b.length) → q.foldl (fun b w => splice b w.1.toNat w.2) b = putAll b (pend q) := by
  induction q with
  | nil => intro b _; rfl
  | cons w q ih =>
    intro b h
    have hw := h w (by simp)
    have hl : w.1.toNat + w.2.length ≤ b.length := by omega
    show (q.foldl (fun b w => splice b w.1.toNat w.2) (splice b w.1.toNat w.2)) = putAll b (pendOf w ++ pend q)
    rw [putAll_append, putAll_pendOf hl]
    exact ih _ (fun v hv => by rw [splice_length hl]; exact h v (List.mem_cons_of_mem _ hv))
namespace Dm
theorem now_eq {d : Dm} (h : d.Ok) : d.now = putAll d.b (pend d.q) := now_put d.q d.b h.fit
theorem now_length {d : Dm} (h : d.Ok) : d.now.length = d.b.length := by rw [now_eq h, putAll_length]
theorem ok_new {n : Nat} (h : 64 ≤ n) (h' : n ≤ 262144) : (new n).Ok := ⟨by simpa [new] using h, by simpa [new] using h', by simp [new]⟩
theorem ok_write {d : Dm} (h : d.Ok) {p : Int} {l : List Int} (hf : d.fits p l.length) : (d.write p l).Ok :=
  ⟨h.lo, h.hi, fun w hw => by
    rcases List.mem_append.1 hw with hw | hw
    · exact h.fit w hw
    · obtain rfl := List.mem_singleton.1 hw
      exact ⟨hf.1, hf.2.2⟩⟩
theorem ok_settle {d : Dm} (h : d.Ok) (last : Int) : (d.settle last).Ok :=
  ⟨by simp only [settle, putAll_length]; exact h.lo, by simp only [settle, putAll_length]; exact h.hi, by simp [settle]⟩
theorem ok_flush {d : Dm} (h : d.Ok) : d.flush.Ok :=
  ⟨by simp only [flush, now_length h]; exact h.lo, by simp only [flush, now_length h]; exact h.hi, by simp [flush]⟩
theorem settle_all {d : Dm} (h : d.Ok) {last : Int} (hl : (d.waits : Int) ≤ last) : (d.settle last).b = d.now := by
  rw [now_eq h]
  simp only [settle]
  rw [List.take_of_length_le]
  rw [pend_length]
  unfold waits at hl
  omega
end Dm
end Go.Proofs.Ytmbemlpmfklddaa.Own
namespace Go.Proofs.Ytmbemlpmfklddaa.Own
open Go.RowKit Go.Proofs.YtmbemlpmfklddaaW.PrintWords Go.Proofs.YtmbemlpmfklddaaW.PrintLast Go.Proofs.YtmbemlpmfklddaaW.PrintMore
/-- Of what was there only blocks of S may have turned. -/
structure Chg (S : Nat → Prop) (w w' : World) : Prop where
  os : w'.os = w.os
  tape : w'.tape = w.tape
  output : w'.output = w.output
  size : w.heap.size ≤ w'.heap.size
  block : ∀ k, k < w.heap.size → ¬ S k → w'.heap[k]? = w.heap[k]?
section
variable {S T : Nat → Prop} {w w1 w2 : World}
theorem Chg.refl (S : Nat → Prop) (w : World) : Chg S w w := ⟨rfl, rfl, rfl, Nat.le_refl _, fun _ _ _ => rfl⟩
theorem Chg.of_below (S : Nat → Prop) (h : Below w.heap.size w w1) : Chg S w w1 := ⟨h.os, h.tape, h.output, h.size, fun k hk _ => h.block k hk⟩
theorem Chg.mono (h : Chg S w w1) (hs : ∀ k, k < w.heap.size → S k → T k) : Chg T w w1 := ⟨h.os, h.tape, h.output, h.size, fun k hk hn => h.block k hk (fun hS => hn (hs k hk hS))⟩
theorem Chg.then_ (h : Chg S w w1) (k : Chg T w1 w2) (hs : ∀ k, T k → S k ∨ w.heap.size ≤ k) : Chg S w w2 :=
  ⟨k.os.trans h.os, k.tape.trans h.tape, k.output.trans h.output, Nat.le_trans h.size k.size, fun i hi hn => (k.block i (Nat.lt_of_lt_of_le hi h.size) (fun h2 => (hs i h2).elim hn (fun h3 => by omega))).trans (h.block i hi hn)⟩
theorem Chg.below (h : Chg S w w1) (hb : Below w1.heap.size w1 w2) : Chg S w w2 := h.then_ (Chg.of_below (fun _ => False) hb) (fun _ hk => hk.elim)
theorem Chg.alloc (h : Chg S w w1) (o : Obj) : Chg S w (w1.alloc o) := h.below (below_alloc (Below.refl _ _) o)
theorem Chg.drew (h : Chg S w w1) : Chg S w w1.drew := ⟨h.os, h.tape, h.output, h.size, h.block⟩
theorem Chg.drewN (h : Chg S w w1) (n : Nat) : Chg S w (w1.drewN n) := ⟨h.os, h.tape, h.output, h.size, h.block⟩
theorem Chg.from_drew (h : Chg S w.drew w1) : Chg S w w1 := ⟨h.os, h.tape, h.output, h.size, h.block⟩
theorem Chg.setCell (h : Chg S w w1) {p : Addr} (hp : S p.block ∨ w.heap.size ≤ p.block) (u : Value) : Chg S w (w1.setCell p u) :=
  h.then_ (T := fun k => k = p.block) ⟨rfl, rfl, rfl, by simp [World.setCell], fun i _ hn => Below.heap_setCell w1 p u i hn⟩ (fun k hk => by rw [hk]; exact hp)
theorem Chg.grown {row : Option Nat} (h : Chg S w w1) (hg : w1.grownBy w2 row) (hr : ∀ k, row = some k → S k ∨ w.heap.size ≤ k) : Chg S w w2 :=
  h.then_ (T := fun k => row = some k) ⟨hg.os, hg.tape, hg.output, hg.size, fun i hi hn => hg.block i hi (fun he => hn he.symm)⟩ hr
/-- What a call may turn lies from B on: below B all is as it was. -/
theorem Chg.toBelow {B : Nat} {w0 : World} (hb : Below B w0 w) (h : Chg S w w1) (hB : B ≤ w.heap.size) (hs : ∀ k, S k → B ≤ k) : Below B w0 w1 :=
  hb.trans ⟨h.os, h.tape, h.output, h.size, fun k hk => h.block k (by omega) (fun hS => by have := hs k hS; omega)⟩
theorem Chg.below_none (h : Chg (fun _ => False) w w1) : Below w.heap.size w w1 := ⟨h.os, h.tape, h.output, h.size, fun k hk => h.block k hk (fun hf => hf)⟩
theorem Chg.blk (h : Chg S w w1) {g : Nat} {o : Obj} (hb : w.heap[g]? = some o) (hg : ¬ S g) : w1.heap[g]? = some o := (h.block g (blk_lt hb) hg).trans hb
theorem OwnB.chg {base : Nat} {v : Value} {xs : List Int} (h : OwnB w base v xs) (hc : Chg S w w1) (hne : ∀ k, v.ownBlock = some k → ¬ S k) : OwnB w1 base v xs :=
  own_move h (fun k hk => hc.block k (own_lt h k hk) (hne k hk))
theorem OwnB.lower {base base' : Nat} {v : Value} {xs : List Int} (h : OwnB w base v xs) (hb : base' ≤ base) : OwnB w base' v xs := own_weaken h hb
theorem F_chg {α : Type} {d : Kd α} {ok : Nat → Prop} {A : Option Addr} {n : Nat} {xs : List α} (h : Kd.F d w ok A n xs) (hc : Chg S w w1) (hok : ∀ k, ok k → ¬ S k) : Kd.F d w1 ok A n xs :=
  Kd.F_step h (fun k hk hlt => hc.block k hlt (hok k hk))
theorem N_chg {α : Type} {d : Kd α} {e base : Nat} {ok : Nat → Prop} {v : Value} {xs : List α} (h : Kd.N d e w base ok v xs) (hc : Chg S w w1) (hok : ∀ k, ok k → ¬ S k) : Kd.N d e w1 base ok v xs :=
  Kd.N_step h (fun k hk hlt => hc.block k hlt (hok k hk))
end

/-- A write that waits, as a kind: a place, and bytes. -/
abbrev WK : Kd (Int × List Int) := Kd.pair (Kd.int .i64) BL
theorem info114 : (Try.prog.info? 114).map (fun i => (i.zero, i.size, i.bytes)) = some (some (.agg #[.int .i64 0, .slice none 0 0]), 2, 32) := by kernel_rfl
/-- A disk in memory, at block g: its own blocks are of S. -/
structure DiskAt (w : World) (S : Nat → Prop) (g gb cap : Nat) (vq : Value) (d : Dm) : Prop where
  cells : w.heap[g]? = some (.cells #[.slice (some ⟨gb, 0, none⟩) d.b.length cap, vq, .int .i64 d.fl, .int .i64 d.wr] 110 (0, 0))
  bytes : OwnB w 0 (.slice (some ⟨gb, 0, none⟩) d.b.length cap) d.b
  queue : Kd.N WK 114 w 0 (fun k => S k ∧ k ≠ g ∧ k ≠ gb) vq d.q
  ok : d.Ok
  inG : S g
  inB : S gb
  ne : g ≠ gb
  lt : ∀ k, S k → k < w.heap.size
def IsDisk (w : World) (S : Nat → Prop) (g : Nat) (d : Dm) : Prop := ∃ gb cap vq, DiskAt w S g gb cap vq d
section
variable {S T : Nat → Prop} {w w1 : World} {g gb cap : Nat} {vq : Value} {d : Dm}
theorem DiskAt.chg (h : DiskAt w S g gb cap vq d) (hc : Chg T w w1) (hne : ∀ k, S k → ¬ T k) : DiskAt w1 S g gb cap vq d :=
  ⟨hc.blk h.cells (hne g h.inG), h.bytes.chg hc (fun k hk => by simp [Value.ownBlock] at hk; subst hk; exact hne _ h.inB), N_chg h.queue hc (fun k hk => hne k hk.1), h.ok, h.inG, h.inB, h.ne, fun k hk => Nat.lt_of_lt_of_le (h.lt k hk) hc.size⟩
theorem IsDisk.chg (h : IsDisk w S g d) (hc : Chg T w w1) (hne : ∀ k, S k → ¬ T k) : IsDisk w1 S g d := by
  obtain ⟨gb, cap, vq, h⟩ := h
  exact ⟨gb, cap, vq, h.chg hc hne⟩
theorem IsDisk.below (h : IsDisk w S g d) (hb : Below w.heap.size w w1) : IsDisk w1 S g d := h.chg (Chg.of_below (fun _ => False) hb) (fun _ _ hf => hf)
theorem IsDisk.ok (h : IsDisk w S g d) : d.Ok := by obtain ⟨_, _, _, h⟩ := h; exact h.ok
theorem IsDisk.lt (h : IsDisk w S g d) : ∀ k, S k → k < w.heap.size := by obtain ⟨_, _, _, h⟩ := h; exact h.lt
theorem IsDisk.inG (h : IsDisk w S g d) : S g := by obtain ⟨_, _, _, h⟩ := h; exact h.inG
theorem DiskAt.drew (h : DiskAt w S g gb cap vq d) : DiskAt w.drew S g gb cap vq d := h.chg (Chg.refl (fun _ => False) w).drew (fun _ _ hf => hf)
/-- The four cells, as the walk asks for them. -/
theorem DiskAt.at_ (h : DiskAt w S g gb cap vq d) : w.cell? ⟨g, 0, none⟩ = some (.slice (some ⟨gb, 0, none⟩) d.b.length cap) ∧ w.cell? ⟨g, 1, none⟩ = some vq ∧ w.cell? ⟨g, 2, none⟩ = some (.int .i64 d.fl) ∧ w.cell? ⟨g, 3, none⟩ = some (.int .i64 d.wr) := by
  refine ⟨?_, ?_, ?_, ?_⟩ <;> rw [blk_cell h.cells] <;> rfl
theorem DiskAt.free (h : DiskAt w S g gb cap vq d) (i : Nat) : w.frozen? ⟨g, i, none⟩ = false := blk_frozen h.cells i
end
/-! ### Size, ask -/
set_option maxHeartbeats 400000 in
set_option maxRecDepth 100000 in
theorem Size_at {S : Nat → Prop} {g gb cap : Nat} {vq : Value} {d : Dm} {w : World} (h : DiskAt w S g gb cap vq d) :
    Calls Try.prog 62 #[.pointer (some ⟨g, 0, none⟩)] w fun e w' => e = .returned (.int .i64 d.b.length) ∧ w = w' := by
  obtain ⟨h0, h1, h2, h3⟩ := h.at_
  have hl := h.ok.lo
  have hh := h.ok.hi
  clear h h1 h2 h3
  go_enter Try.func62, Try.ntmps62
  go_wp2_with fail
  go_ret
  exact ⟨rfl, rfl⟩
set_option maxHeartbeats 400000 in
set_option maxRecDepth 100000 in
theorem Size_nil (w : World) : Calls Try.prog 62 #[.pointer none] w fun e w' => e = .returned (.int .i64 0) ∧ w = w' := by
  go_enter Try.func62, Try.ntmps62
  go_wp2_with fail
  go_ret
  exact ⟨rfl, rfl⟩
set_option maxHeartbeats 400000 in
set_option maxRecDepth 100000 in
theorem ask_nil (p n : Int) (w : World) : Calls Try.prog 60 #[.pointer none, .int .i64 p, .int .i64 n] w fun e w' => e = .returned (.int .i64 6) ∧ w = w' := by
  go_enter Try.func60, Try.ntmps60
  go_wp2_with (go_at_call 62; refine (Size_nil _).mono ?_; rintro e w' ⟨rfl, rfl⟩)
  go_ret
  exact ⟨rfl, rfl⟩
set_option maxHeartbeats 400000 in
set_option maxRecDepth 100000 in
theorem ask_yes {S : Nat → Prop} {g gb cap : Nat} {vq : Value} {d : Dm} {w : World} (h : DiskAt w S g gb cap vq d) (p n : Int) (hf : d.fits p n) :
    Calls Try.prog 60 #[.pointer (some ⟨g, 0, none⟩), .int .i64 p, .int .i64 n] w fun e w' => e = .returned (.int .i64 0) ∧ w = w' := by
  have H := Aside0.mk h
  obtain ⟨h0, h1, h2, h3⟩ := h.at_
  have hl := h.ok.lo
  have hh := h.ok.hi
  obtain ⟨f0, f1, f2⟩ := hf
  have e0 : ((d.b.length : Int) == 0) = false := beq_eq_false_iff_ne.mpr (by omega)
  clear h h1 h2 h3
  go_enter Try.func60, Try.ntmps60
  go_wp2_with (go_at_call 62; refine (Size_at H.out).mono ?_; rintro e w' ⟨rfl, rfl⟩)
  go_ret
  exact ⟨rfl, rfl⟩
set_option maxHeartbeats 800000 in
set_option maxRecDepth 100000 in
theorem ask_no {S : Nat → Prop} {g gb cap : Nat} {vq : Value} {d : Dm} {w : World} (h : DiskAt w S g gb cap vq d) (p n : Int) (hf : ¬ d.fits p n) :
    Calls Try.prog 60 #[.pointer (some ⟨g, 0, none⟩), .int .i64 p, .int .i64 n] w fun e w' => e = .returned (.int .i64 1) ∧ w = w' := by
  have H := Aside0.mk h
  obtain ⟨h0, h1, h2, h3⟩ := h.at_
  have hl := h.ok.lo
  have hh := h.ok.hi
  unfold Dm.fits at hf
  have e0 : ((d.b.length : Int) == 0) = false := beq_eq_false_iff_ne.mpr (by omega)
  clear h h1 h2 h3
  by_cases c1 : p < 0
  · clear hf
    go_enter Try.func60, Try.ntmps60
    go_wp2_with (go_at_call 62; refine (Size_at H.out).mono ?_; rintro e w' ⟨rfl, rfl⟩)
    go_ret
    exact ⟨rfl, rfl⟩
  by_cases c2 : n < 0
  · clear hf
    go_enter Try.func60, Try.ntmps60
    go_wp2_with (go_at_call 62; refine (Size_at H.out).mono ?_; rintro e w' ⟨rfl, rfl⟩)
    go_ret
    exact ⟨rfl, rfl⟩
  by_cases c3 : (d.b.length : Int) < p
  · clear hf
    go_enter Try.func60, Try.ntmps60
    go_wp2_with (go_at_call 62; refine (Size_at H.out).mono ?_; rintro e w' ⟨rfl, rfl⟩)
    go_ret
    exact ⟨rfl, rfl⟩
  have c4 : (d.b.length : Int) - p < n := by omega
  clear hf
  go_enter Try.func60, Try.ntmps60
  go_wp2_with (go_at_call 62; refine (Size_at H.out).mono ?_; rintro e w' ⟨rfl, rfl⟩)
  go_ret
  exact ⟨rfl, rfl⟩
end Go.Proofs.Ytmbemlpmfklddaa.Own
