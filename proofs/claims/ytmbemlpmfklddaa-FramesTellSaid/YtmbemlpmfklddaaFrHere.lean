/- Records beside other things. -/
import Derived.Test.YtmbemlpmfklddaaFr4
import Derived.Test.YtmbemlpmfklddaaNth
namespace Go.Proofs.Ytmbemlpmfklddaa.Own
open Go.RowKit Go.Proofs.YtmbemlpmfklddaaW.PrintWords Go.Proofs.YtmbemlpmfklddaaW.PrintLast Go.Proofs.YtmbemlpmfklddaaW.PrintMore
/-- Records of one's own. -/
def RecsT (v : Value) (L : List Rec) : Thing where
  at_ W S := Kd.N WK 49 W 0 S v L ∧ ∀ k, S k → k < W.heap.size
  chg h hc hn := ⟨N_chg h.1 hc hn, fun k hk => Nat.lt_of_lt_of_le (h.2 k hk) hc.size⟩
  lt h := h.2
theorem Here.recs {w W : World} {Ps : List Thing} {v : Value} {L : List Rec} (h : Here w W (RecsT v L :: Ps)) : ∃ A c, v = .slice A L.length c ∧ L.length ≤ c ∧ WK.C W A L.length L := by
  obtain ⟨S, h1, _⟩ := h.get
  obtain ⟨A, c, e, hc, hC⟩ := Kd.N_reads h1.1
  exact ⟨A, c, e, hc, hC⟩
theorem ReadF_here {w W : World} {Ps : List Thing} (h : Here w W Ps) (A : Option Addr) (c : Nat) (b : List Int) (hC : (Kd.int .u8).C W A b.length b) (hc : b.length ≤ c) (hb : ∀ x ∈ b, 0 ≤ x ∧ x < 256) (hl : b.length ≤ 300000) :
    Calls Try.prog 29 #[.slice A b.length c] W fun e W' => ∃ v, e = .returned (.tuple #[v, .int .i64 (readR b).2.1, .int .i64 (readR b).2.2]) ∧ Here w W' (RecsT v (readR b).1 :: Ps) := by
  refine (Read_calls A c b W hC hc hb hl).mono ?_
  rintro e W' ⟨v, rfl, hN, hB⟩
  refine ⟨v, rfl, h.add (P := RecsT v (readR b).1) (S' := fun k => W.heap.size ≤ k ∧ k < W'.heap.size) ⟨?_, fun k hk => hk.2⟩ hB (fun k hk => hk.1)⟩
  exact Kd.N_lower (Kd.N_bound hN) (Nat.zero_le _)
theorem WriteF_here {w W : World} {Ps : List Thing} (h : Here w W Ps) (r : Rec) (A : Option Addr) (c : Nat) (hC : (Kd.int .u8).C W A r.2.length r.2) (hc : r.2.length ≤ c) (hr : okR r) :
    Calls Try.prog 28 #[.agg #[.int .i64 r.1, .slice A r.2.length c]] W fun e W' => ∃ v, e = .returned (.tuple #[v, .int .i64 0]) ∧ Here w W' (BytesT v (frameR r) :: Ps) := by
  refine (Write_ok r A c W hC hc hr).mono ?_
  rintro e W' ⟨v, rfl, ho, hB⟩
  exact ⟨v, rfl, h.addBytes hB ho⟩
theorem Here.put {w W : World} {Ps : List Thing} {g n cap : Nat} {l : List Int} (h : Here w W (BytesT (.slice (some ⟨g, 0, none⟩) n cap) l :: Ps)) (i : Nat) (x : Int) :
    Here w (W.setCell ⟨g, i, none⟩ (.int .u8 x)) (BytesT (.slice (some ⟨g, 0, none⟩) n cap) (l.set i x) :: Ps) := by
  obtain ⟨S, ⟨h1, h1'⟩, _, h2⟩ := h.get
  obtain rfl := (OwnB.cap h1).1
  have h3 := own_put h1 (i : Int) x
  rw [Int.toNat_natCast] at h3
  exact h2 (P' := BytesT (.slice (some ⟨g, 0, none⟩) l.length cap) (l.set i x)) (S' := S) ⟨h3, h1'⟩ (Chg.setCell (Chg.refl S W) (.inl ((h1' g).2 rfl)) _) (fun k hk => .inl hk)
theorem Here.byteAt {w W : World} {Ps : List Thing} {g n cap : Nat} {l : List Int} (h : Here w W (BytesT (.slice (some ⟨g, 0, none⟩) n cap) l :: Ps)) (i : Nat) (hi : i < n) :
    W.cell? ⟨g, i, none⟩ = some (.int .u8 (l.getD i 0)) ∧ W.frozen? ⟨g, i, none⟩ = false := by
  obtain ⟨S, ⟨h1, h1'⟩, _, h2⟩ := h.get
  obtain rfl := (OwnB.cap h1).1
  have h3 := own_at h1 (i : Int) (by omega) (by omega)
  rw [Int.toNat_natCast] at h3
  refine ⟨h3.1.trans ?_, h3.2⟩
  unfold rd
  rw [Int.toNat_natCast]
theorem Here.row {w W : World} {Ps : List Thing} {v : Value} {l : List Int} (h : Here w W (BytesT v l :: Ps)) (h0 : 0 < l.length) : ∃ g cap, v = .slice (some ⟨g, 0, none⟩) l.length cap ∧ l.length ≤ cap := by
  have h1 := h.bytes
  obtain ⟨g, cap, e, _, _⟩ := World.ownsRow.form h1 h0
  subst e
  exact ⟨g, cap, rfl, (OwnB.cap h1).2⟩
theorem ReadF_n {w W : World} {Ps : List Thing} (h : Here w W Ps) (A : Option Addr) (n c : Nat) (b : List Int) (hn : n = b.length) (hC : (Kd.int .u8).C W A b.length b) (hc : b.length ≤ c) (hb : ∀ x ∈ b, 0 ≤ x ∧ x < 256) (hl : b.length ≤ 300000) :
    Calls Try.prog 29 #[.slice A n c] W fun e W' => ∃ v, e = .returned (.tuple #[v, .int .i64 (readR b).2.1, .int .i64 (readR b).2.2]) ∧ Here w W' (RecsT v (readR b).1 :: Ps) := by
  subst hn
  exact ReadF_here h A c b hC hc hb hl
end Go.Proofs.Ytmbemlpmfklddaa.Own
