/- The disk's methods in memory: Crash, Flush, Counts; all of them at a disk. -/
import Derived.Test.YtmbemlpmfklddaaItr
import Derived.Test.YtmbemlpmfklddaaDisk3
namespace Go.Proofs.Ytmbemlpmfklddaa.Own
open Go.RowKit Go.Proofs.YtmbemlpmfklddaaW.PrintWords Go.Proofs.YtmbemlpmfklddaaW.PrintLast Go.Proofs.YtmbemlpmfklddaaW.PrintMore
set_option maxHeartbeats 400000 in
set_option maxRecDepth 100000 in
theorem Crash_at {S : Nat → Prop} {g gb cap : Nat} {vq : Value} {d : Dm} {w : World} (h : DiskAt w S g gb cap vq d) (hq : d.q.length ≤ 1000000) (last : Int) :
    Calls Try.prog 22 #[.pointer (some ⟨g, 0, none⟩), .int .i64 last] w fun e w' => e = .returned (.int .i64 0) ∧ DiskAt w' S g gb cap (.slice none 0 0) (d.settle last) ∧ Chg S w w' := by
  have H := Aside0.mk h
  have e0 : ((d.b.length : Int) == 0) = false := beq_eq_false_iff_ne.mpr (by have := h.ok.lo; omega)
  clear h
  go_enter Try.func22, Try.ntmps22
  go_wp2_with (first
    | (go_at_call 62; refine (Size_at H.out).mono ?_; rintro e w' ⟨rfl, rfl⟩)
    | (go_at_call 63; refine (settle_at H.out hq last).mono ?_; rintro e w1 ⟨rfl, h1, h2⟩; have H1 := Aside0.mk h1; have H2 := Aside0.mk h2; clear h1 h2))
  go_ret
  exact ⟨rfl, H1.out, H2.out⟩
set_option maxHeartbeats 400000 in
set_option maxRecDepth 100000 in
theorem Flush_at {S : Nat → Prop} {g gb cap : Nat} {vq : Value} {d : Dm} {w : World} (h : DiskAt w S g gb cap vq d) (hq : d.q.length ≤ 1000000) :
    Calls Try.prog 23 #[.pointer (some ⟨g, 0, none⟩)] w fun e w' => e = .returned (.int .i64 0) ∧ DiskAt w' S g gb cap (.slice none 0 0) d.flush ∧ Chg S w w' := by
  have H := Aside0.mk h
  have e0 : ((d.b.length : Int) == 0) = false := beq_eq_false_iff_ne.mpr (by have := h.ok.lo; omega)
  clear h
  go_enter Try.func23, Try.ntmps23
  go_wp2_with (first
    | (go_at_call 62; refine (Size_at H.out).mono ?_; rintro e w' ⟨rfl, rfl⟩)
    | (go_at_call 26; refine (Waits_at H.out hq).mono ?_; rintro e w1 ⟨rfl, hb⟩; have HB := Aside0.mk hb; clear hb)
    | (go_at_call 63; go_must (refine (settle_at (H.out.below HB.out) hq d.waits).mono ?_); rintro e w2 ⟨rfl, h1, h2⟩; have H1 := Aside0.mk h1; have H2 := Aside0.mk h2; obtain ⟨p0, p1, p2, p3⟩ := h1.at_; have f2 := h1.free 2; have p4 : w2.cell? ⟨g, 2, none⟩ = some (.int .i64 d.fl) := p2; clear h1 h2 p0 p1 p2 p3))
  go_ret
  have hb : (d.settle d.waits).b = d.now := Dm.settle_all H.out.ok (Int.le_refl _)
  refine ⟨rfl, ?_, ((Chg.of_below S HB.out).then_ H2.out (fun k hk => .inl hk)).setCell (.inl H1.out.inG) _⟩
  have hd := H1.out
  refine ⟨?_, ?_, Kd.N_nil _ _ _ _ _, Dm.ok_flush H.out.ok, hd.inG, hd.inB, hd.ne, ?_⟩
  · have := hd.cells
    rw [hb] at this
    exact blk_put this 2 _ rfl
  · have := hd.bytes
    rw [hb] at this
    refine own_move this (fun k hk => ?_)
    simp [Value.ownBlock] at hk
    subst hk
    exact Below.heap_setCell _ _ _ _ (by exact fun e => hd.ne e.symm)
  · intro k hk
    have := hd.lt k hk
    simpa [World.setCell] using this
set_option maxHeartbeats 400000 in
set_option maxRecDepth 100000 in
theorem Crash_nil (last : Int) (w : World) : Calls Try.prog 22 #[.pointer none, .int .i64 last] w fun e w' => e = .returned (.int .i64 6) ∧ w = w' := by
  go_enter Try.func22, Try.ntmps22
  go_wp2_with (go_at_call 62; refine (Size_nil _).mono ?_; rintro e w' ⟨rfl, rfl⟩)
  go_ret
  exact ⟨rfl, rfl⟩
set_option maxHeartbeats 400000 in
set_option maxRecDepth 100000 in
theorem Counts_at {S : Nat → Prop} {g gb cap : Nat} {vq : Value} {d : Dm} {w : World} (h : DiskAt w S g gb cap vq d) :
    Calls Try.prog 64 #[.pointer (some ⟨g, 0, none⟩)] w fun e w' => e = .returned (.tuple #[.int .i64 d.fl, .int .i64 d.wr]) ∧ Below w.heap.size w w' := by
  obtain ⟨h0, h1, h2, h3⟩ := h.at_
  clear h h0 h1
  go_enter Try.func64, Try.ntmps64
  go_wp2
  go_region
  all_goals
    go_wp2
    go_ret2
    exact ⟨rfl, (Below.refl _ _).drew⟩
/-! The same contracts, of a disk whose own blocks are not named. -/
theorem Write_is {S : Nat → Prop} {g : Nat} {d : Dm} {w : World} (h : IsDisk w S g d) (hq : d.q.length ≤ 1000000) (p : Int) (A : Option Addr) (c : Nat) (l : List Int)
    (hl : (Kd.int .u8).C w A l.length l) (hf : d.fits p l.length) :
    Calls Try.prog 21 #[.pointer (some ⟨g, 0, none⟩), .int .i64 p, .slice A l.length c] w fun e w' => e = .returned (.int .i64 0) ∧ IsDisk w' (fun k => S k ∨ (w.heap.size ≤ k ∧ k < w'.heap.size)) g (d.write p l) ∧ Chg S w w' := by
  obtain ⟨gb, cap, vq, h⟩ := h
  refine (Write_yes h hq p A c l hl hf).mono ?_
  rintro e w' ⟨rfl, ⟨vq', h1⟩, h2⟩
  exact ⟨rfl, ⟨gb, cap, vq', h1⟩, h2⟩
theorem WriteNo_is {S : Nat → Prop} {g : Nat} {d : Dm} {w : World} (h : IsDisk w S g d) (p : Int) (A : Option Addr) (c n : Nat) (hn : n ≤ 9223372036854775807) (hf : ¬ d.fits p n) :
    Calls Try.prog 21 #[.pointer (some ⟨g, 0, none⟩), .int .i64 p, .slice A n c] w fun e w' => e = .returned (.int .i64 1) ∧ w = w' := by
  obtain ⟨gb, cap, vq, h⟩ := h
  exact Write_no h p A c n hn hf
theorem Read_is {S : Nat → Prop} {g : Nat} {d : Dm} {w : World} (h : IsDisk w S g d) (hq : d.q.length ≤ 1000000) (p n : Nat) (hf : d.fits p n) :
    Calls Try.prog 24 #[.pointer (some ⟨g, 0, none⟩), .int .i64 p, .int .i64 n] w fun e w' => ∃ v, e = .returned (.tuple #[v, .int .i64 0]) ∧ OwnB w' w.heap.size v (d.read p n) ∧ Below w.heap.size w w' := by
  obtain ⟨gb, cap, vq, h⟩ := h
  exact Read_yes h hq p n hf
theorem Crash_is {S : Nat → Prop} {g : Nat} {d : Dm} {w : World} (h : IsDisk w S g d) (hq : d.q.length ≤ 1000000) (last : Int) :
    Calls Try.prog 22 #[.pointer (some ⟨g, 0, none⟩), .int .i64 last] w fun e w' => e = .returned (.int .i64 0) ∧ IsDisk w' S g (d.settle last) ∧ Chg S w w' := by
  obtain ⟨gb, cap, vq, h⟩ := h
  refine (Crash_at h hq last).mono ?_
  rintro e w' ⟨rfl, h1, h2⟩
  exact ⟨rfl, ⟨gb, cap, _, h1⟩, h2⟩
theorem Flush_is {S : Nat → Prop} {g : Nat} {d : Dm} {w : World} (h : IsDisk w S g d) (hq : d.q.length ≤ 1000000) :
    Calls Try.prog 23 #[.pointer (some ⟨g, 0, none⟩)] w fun e w' => e = .returned (.int .i64 0) ∧ IsDisk w' S g d.flush ∧ Chg S w w' := by
  obtain ⟨gb, cap, vq, h⟩ := h
  refine (Flush_at h hq).mono ?_
  rintro e w' ⟨rfl, h1, h2⟩
  exact ⟨rfl, ⟨gb, cap, _, h1⟩, h2⟩
theorem Waits_is {S : Nat → Prop} {g : Nat} {d : Dm} {w : World} (h : IsDisk w S g d) (hq : d.q.length ≤ 1000000) :
    Calls Try.prog 26 #[.pointer (some ⟨g, 0, none⟩)] w fun e w' => e = .returned (.int .i64 d.waits) ∧ Below w.heap.size w w' := by
  obtain ⟨gb, cap, vq, h⟩ := h
  exact Waits_at h hq
theorem Size_is {S : Nat → Prop} {g : Nat} {d : Dm} {w : World} (h : IsDisk w S g d) :
    Calls Try.prog 62 #[.pointer (some ⟨g, 0, none⟩)] w fun e w' => e = .returned (.int .i64 d.b.length) ∧ w = w' := by
  obtain ⟨gb, cap, vq, h⟩ := h
  exact Size_at h
theorem Counts_is {S : Nat → Prop} {g : Nat} {d : Dm} {w : World} (h : IsDisk w S g d) :
    Calls Try.prog 64 #[.pointer (some ⟨g, 0, none⟩)] w fun e w' => e = .returned (.tuple #[.int .i64 d.fl, .int .i64 d.wr]) ∧ Below w.heap.size w w' := by
  obtain ⟨gb, cap, vq, h⟩ := h
  exact Counts_at h
end Go.Proofs.Ytmbemlpmfklddaa.Own
