/- Things in memory side by side, each in blocks of its own: a call that turns one of them leaves the others. -/
import Derived.Test.YtmbemlpmfklddaaDisk4
namespace Go.Proofs.Ytmbemlpmfklddaa.Own
open Go.RowKit Go.Proofs.YtmbemlpmfklddaaW.PrintWords Go.Proofs.YtmbemlpmfklddaaW.PrintLast Go.Proofs.YtmbemlpmfklddaaW.PrintMore
/-- A thing in memory: what it says of a world and of the blocks that are its own. -/
structure Thing where
  at_ : World → (Nat → Prop) → Prop
  chg : ∀ {W W' : World} {S T : Nat → Prop}, at_ W S → Chg T W W' → (∀ k, S k → ¬ T k) → at_ W' S
  lt : ∀ {W : World} {S : Nat → Prop}, at_ W S → ∀ k, S k → k < W.heap.size
def All (W : World) : List Thing → (Nat → Prop) → Prop
  | [], _ => True
  | P :: Ps, S => ∃ S1 S2, P.at_ W S1 ∧ All W Ps S2 ∧ (∀ k, S1 k → ¬ S2 k) ∧ (∀ k, S1 k ∨ S2 k → S k)
theorem All.mono {W : World} {S T : Nat → Prop} (hs : ∀ k, S k → T k) : ∀ {Ps : List Thing}, All W Ps S → All W Ps T
  | [], _ => trivial
  | _ :: _, ⟨S1, S2, h1, h2, h3, h4⟩ => ⟨S1, S2, h1, h2, h3, fun k hk => hs k (h4 k hk)⟩
theorem All.chg {W W' : World} {T : Nat → Prop} (hc : Chg T W W') : ∀ {Ps : List Thing} {S : Nat → Prop}, All W Ps S → (∀ k, S k → ¬ T k) → All W' Ps S
  | [], _, _, _ => trivial
  | P :: _, _, ⟨S1, S2, h1, h2, h3, h4⟩, hn => ⟨S1, S2, P.chg h1 hc (fun k hk => hn k (h4 k (.inl hk))), All.chg hc h2 (fun k hk => hn k (h4 k (.inr hk))), h3, h4⟩
/-- The things that a call has made, all above what was there when it began; and what was there is as it was. -/
def Here (w W : World) (Ps : List Thing) : Prop := ∃ S, All W Ps S ∧ (∀ k, S k → w.heap.size ≤ k ∧ k < W.heap.size) ∧ Below w.heap.size w W
section
variable {w W W' : World} {P P' Q R : Thing} {Ps Qs : List Thing}
theorem Here.nil (w : World) : Here w w [] := ⟨fun _ => False, trivial, fun _ h => h.elim, Below.refl _ _⟩
theorem Here.below (h : Here w W Ps) : Below w.heap.size w W := by obtain ⟨_, _, _, h⟩ := h; exact h
theorem Here.then_ (h : Here w W Ps) (hb : Below W.heap.size W W') : Here w W' Ps := by
  obtain ⟨S, h1, h2, h3⟩ := h
  exact ⟨S, h1.chg (Chg.of_below (fun _ => False) hb) (fun _ _ hf => hf), fun k hk => ⟨(h2 k hk).1, Nat.lt_of_lt_of_le (h2 k hk).2 hb.size⟩, below_step h3 hb⟩
theorem Here.drew (h : Here w W Ps) : Here w W.drew Ps := h.then_ (Below.refl _ _).drew
theorem Here.alloc (h : Here w W Ps) (o : Obj) : Here w (W.alloc o) Ps := h.then_ (below_alloc (Below.refl _ _) o)
/-- What the first thing says. -/
theorem Here.get (h : Here w W (P :: Ps)) : ∃ S, P.at_ W S ∧ (∀ k, S k → w.heap.size ≤ k) ∧
    ∀ {W' : World} {P' : Thing} {S' : Nat → Prop}, P'.at_ W' S' → Chg S W W' → (∀ k, S' k → S k ∨ W.heap.size ≤ k) → Here w W' (P' :: Ps) := by
  obtain ⟨S, ⟨S1, S2, h1, h2, h3, h4⟩, h5, h6⟩ := h
  refine ⟨S1, h1, fun k hk => (h5 k (h4 k (.inl hk))).1, fun {W' P' S'} hp hc hs => ?_⟩
  refine ⟨fun k => S' k ∨ S2 k, ⟨S', S2, hp, h2.chg hc (fun k hk hk1 => h3 k hk1 hk), fun k hk hk2 => ?_, fun k hk => hk⟩, fun k hk => ?_, ?_⟩
  · rcases hs k hk with hk1 | hk1
    · exact h3 k hk1 hk2
    · have := (h5 k (h4 k (.inr hk2))).2
      omega
  · rcases hk with hk | hk
    · refine ⟨?_, P'.lt hp k hk⟩
      rcases hs k hk with hk1 | hk1
      · exact (h5 k (h4 k (.inl hk1))).1
      · exact Nat.le_trans h6.size hk1
    · have := h5 k (h4 k (.inr hk))
      exact ⟨this.1, Nat.lt_of_lt_of_le this.2 hc.size⟩
  · exact hc.toBelow h6 h6.size (fun k hk => (h5 k (h4 k (.inl hk))).1)
/-- A new thing beside the others. -/
theorem Here.add (h : Here w W Ps) {S' : Nat → Prop} (hp : P.at_ W' S') (hb : Below W.heap.size W W') (hs : ∀ k, S' k → W.heap.size ≤ k) : Here w W' (P :: Ps) := by
  obtain ⟨S, h1, h2, h3⟩ := h
  refine ⟨fun k => S' k ∨ S k, ⟨S', S, hp, h1.chg (Chg.of_below (fun _ => False) hb) (fun _ _ hf => hf), fun k hk hk2 => ?_, fun k hk => hk⟩, fun k hk => ?_, below_step h3 hb⟩
  · have := hs k hk
    have := (h2 k hk2).2
    omega
  · rcases hk with hk | hk
    · exact ⟨Nat.le_trans h3.size (hs k hk), P.lt hp k hk⟩
    · exact ⟨(h2 k hk).1, Nat.lt_of_lt_of_le (h2 k hk).2 hb.size⟩
theorem Here.drop (h : Here w W (P :: Ps)) : Here w W Ps := by
  obtain ⟨S, ⟨S1, S2, h1, h2, h3, h4⟩, h5, h6⟩ := h
  exact ⟨S2, h2, fun k hk => h5 k (h4 k (.inr hk)), h6⟩
theorem Here.swap (h : Here w W (P :: Q :: Ps)) : Here w W (Q :: P :: Ps) := by
  obtain ⟨S, ⟨S1, S2, h1, ⟨S3, S4, h2, h3, h4, h5⟩, h6, h7⟩, h8, h9⟩ := h
  refine ⟨S, ⟨S3, fun k => S1 k ∨ S4 k, h2, ⟨S1, S4, h1, h3, fun k hk hk2 => h6 k hk (h5 k (.inr hk2)), fun _ hk => hk⟩, fun k hk hk2 => ?_, fun k hk => ?_⟩, h8, h9⟩
  · rcases hk2 with hk2 | hk2
    · exact h6 k hk2 (h5 k (.inl hk))
    · exact h4 k hk hk2
  · rcases hk with hk | hk | hk
    · exact h7 k (.inr (h5 k (.inl hk)))
    · exact h7 k (.inl hk)
    · exact h7 k (.inr (h5 k (.inr hk)))
/-- The second one is put behind the third, .. : what stands first stays. -/
theorem Here.under (f : ∀ {W : World} {S : Nat → Prop}, All W Ps S → All W Qs S) (h : Here w W (P :: Ps)) : Here w W (P :: Qs) := by
  obtain ⟨S, ⟨S1, S2, h1, h2, h3, h4⟩, h5, h6⟩ := h
  exact ⟨S, ⟨S1, S2, h1, f h2, h3, h4⟩, h5, h6⟩
theorem All.swap {S : Nat → Prop} : All W (P :: Q :: Ps) S → All W (Q :: P :: Ps) S := by
  rintro ⟨S1, S2, h1, ⟨S3, S4, h2, h3, h4, h5⟩, h6, h7⟩
  refine ⟨S3, fun k => S1 k ∨ S4 k, h2, ⟨S1, S4, h1, h3, fun k hk hk2 => h6 k hk (h5 k (.inr hk2)), fun _ hk => hk⟩, fun k hk hk2 => ?_, fun k hk => ?_⟩
  · rcases hk2 with hk2 | hk2
    · exact h6 k hk2 (h5 k (.inl hk))
    · exact h4 k hk hk2
  · rcases hk with hk | hk | hk
    · exact h7 k (.inr (h5 k (.inl hk)))
    · exact h7 k (.inl hk)
    · exact h7 k (.inr (h5 k (.inr hk)))
theorem Here.third (h : Here w W (P :: Q :: R :: Ps)) : Here w W (R :: P :: Q :: Ps) := (h.under All.swap).swap
end
/-- A disk. -/
def DiskT (g : Nat) (d : Dm) : Thing where
  at_ W S := IsDisk W S g d
  chg h hc hn := h.chg hc hn
  lt h := h.lt
/-- Bytes of one's own. -/
def BytesT (v : Value) (l : List Int) : Thing where
  at_ W S := OwnB W 0 v l ∧ ∀ k, S k ↔ v.ownBlock = some k
  chg h hc hn := ⟨h.1.chg hc (fun k hk => hn k ((h.2 k).2 hk)), h.2⟩
  lt h k hk := own_lt h.1 k ((h.2 k).1 hk)
section
variable {w W W' : World} {Ps : List Thing} {v : Value} {l : List Int} {base : Nat}
theorem Here.bytes (h : Here w W (BytesT v l :: Ps)) : OwnB W 0 v l := by
  obtain ⟨S, h1, _⟩ := h.get
  exact h1.1
theorem Here.addBytes (h : Here w W Ps) (hb : Below W.heap.size W W') (ho : OwnB W' W.heap.size v l) : Here w W' (BytesT v l :: Ps) :=
  h.add (P := BytesT v l) (S' := fun k => v.ownBlock = some k) ⟨ho.lower (Nat.zero_le _), fun _ => Iff.rfl⟩ hb (fun k hk => own_base ho k hk)
end
/-! ### The disk's calls, beside other things -/
section
variable {w W : World} {Ps : List Thing} {g : Nat} {d : Dm}
theorem New_here (h : Here w W Ps) (n : Nat) (h1 : 64 ≤ n) (h2 : n ≤ 262144) :
    Calls Try.prog 20 #[.int .i64 n] W fun e W' => ∃ g, e = .returned (.tuple #[.pointer (some ⟨g, 0, none⟩), .int .i64 0]) ∧ Here w W' (DiskT g (Dm.new n) :: Ps) := by
  refine (New_yes n W h1 h2).mono ?_
  rintro e W' ⟨g, S, rfl, hd, hs, hb⟩
  exact ⟨g, rfl, h.add (P := DiskT g (Dm.new n)) hd hb hs⟩
theorem Write_here (h : Here w W (DiskT g d :: Ps)) (hq : d.q.length ≤ 1000000) (p : Int) (A : Option Addr) (c : Nat) (l : List Int) (hl : (Kd.int .u8).C W A l.length l) (hf : d.fits p l.length) :
    Calls Try.prog 21 #[.pointer (some ⟨g, 0, none⟩), .int .i64 p, .slice A l.length c] W fun e W' => e = .returned (.int .i64 0) ∧ Here w W' (DiskT g (d.write p l) :: Ps) := by
  obtain ⟨S, h1, _, h2⟩ := h.get
  refine (Write_is h1 hq p A c l hl hf).mono ?_
  rintro e W' ⟨rfl, hd, hc⟩
  exact ⟨rfl, h2 (P' := DiskT g (d.write p l)) hd hc (fun k hk => hk.imp id (fun h => h.1))⟩
theorem WriteNo_here (h : Here w W (DiskT g d :: Ps)) (p : Int) (A : Option Addr) (c n : Nat) (hn : n ≤ 9223372036854775807) (hf : ¬ d.fits p n) :
    Calls Try.prog 21 #[.pointer (some ⟨g, 0, none⟩), .int .i64 p, .slice A n c] W fun e W' => e = .returned (.int .i64 1) ∧ W = W' := by
  obtain ⟨S, h1, _, _⟩ := h.get
  exact WriteNo_is h1 p A c n hn hf
theorem Read_here (h : Here w W (DiskT g d :: Ps)) (hq : d.q.length ≤ 1000000) (p n : Nat) (hf : d.fits p n) :
    Calls Try.prog 24 #[.pointer (some ⟨g, 0, none⟩), .int .i64 p, .int .i64 n] W fun e W' => ∃ v, e = .returned (.tuple #[v, .int .i64 0]) ∧ Here w W' (BytesT v (d.read p n) :: DiskT g d :: Ps) := by
  obtain ⟨S, h1, _, _⟩ := h.get
  refine (Read_is h1 hq p n hf).mono ?_
  rintro e W' ⟨v, rfl, ho, hb⟩
  exact ⟨v, rfl, h.addBytes hb ho⟩
theorem Crash_here (h : Here w W (DiskT g d :: Ps)) (hq : d.q.length ≤ 1000000) (last : Int) :
    Calls Try.prog 22 #[.pointer (some ⟨g, 0, none⟩), .int .i64 last] W fun e W' => e = .returned (.int .i64 0) ∧ Here w W' (DiskT g (d.settle last) :: Ps) := by
  obtain ⟨S, h1, _, h2⟩ := h.get
  refine (Crash_is h1 hq last).mono ?_
  rintro e W' ⟨rfl, hd, hc⟩
  exact ⟨rfl, h2 (P' := DiskT g (d.settle last)) hd hc (fun k hk => .inl hk)⟩
theorem Flush_here (h : Here w W (DiskT g d :: Ps)) (hq : d.q.length ≤ 1000000) :
    Calls Try.prog 23 #[.pointer (some ⟨g, 0, none⟩)] W fun e W' => e = .returned (.int .i64 0) ∧ Here w W' (DiskT g d.flush :: Ps) := by
  obtain ⟨S, h1, _, h2⟩ := h.get
  refine (Flush_is h1 hq).mono ?_
  rintro e W' ⟨rfl, hd, hc⟩
  exact ⟨rfl, h2 (P' := DiskT g d.flush) hd hc (fun k hk => .inl hk)⟩
theorem Waits_here (h : Here w W (DiskT g d :: Ps)) (hq : d.q.length ≤ 1000000) :
    Calls Try.prog 26 #[.pointer (some ⟨g, 0, none⟩)] W fun e W' => e = .returned (.int .i64 d.waits) ∧ Here w W' (DiskT g d :: Ps) := by
  obtain ⟨S, h1, _, _⟩ := h.get
  refine (Waits_is h1 hq).mono ?_
  rintro e W' ⟨rfl, hb⟩
  exact ⟨rfl, h.then_ hb⟩
theorem Counts_here (h : Here w W (DiskT g d :: Ps)) :
    Calls Try.prog 64 #[.pointer (some ⟨g, 0, none⟩)] W fun e W' => e = .returned (.tuple #[.int .i64 d.fl, .int .i64 d.wr]) ∧ Here w W' (DiskT g d :: Ps) := by
  obtain ⟨S, h1, _, _⟩ := h.get
  refine (Counts_is h1).mono ?_
  rintro e W' ⟨rfl, hb⟩
  exact ⟨rfl, h.then_ hb⟩
theorem Size_here (h : Here w W (DiskT g d :: Ps)) :
    Calls Try.prog 62 #[.pointer (some ⟨g, 0, none⟩)] W fun e W' => e = .returned (.int .i64 d.b.length) ∧ W = W' := by
  obtain ⟨S, h1, _, _⟩ := h.get
  exact Size_is h1
end
end Go.Proofs.Ytmbemlpmfklddaa.Own
