/- Things in any order; cells of one's own as a thing. -/
import Derived.Test.YtmbemlpmfklddaaHere
namespace Go.Proofs.Ytmbemlpmfklddaa.Own
open Go.RowKit Go.Proofs.YtmbemlpmfklddaaW.PrintWords Go.Proofs.YtmbemlpmfklddaaW.PrintLast Go.Proofs.YtmbemlpmfklddaaW.PrintMore
theorem All.perm {W : World} {Ps Qs : List Thing} (hp : Ps.Perm Qs) : ∀ {S : Nat → Prop}, All W Ps S → All W Qs S := by
  induction hp with
  | nil => exact id
  | cons x _ ih => rintro S ⟨S1, S2, h1, h2, h3, h4⟩; exact ⟨S1, S2, h1, ih h2, h3, h4⟩
  | swap x y l => exact All.swap
  | trans _ _ ih1 ih2 => exact fun h => ih2 (ih1 h)
theorem Here.perm {w W : World} {Ps Qs : List Thing} (h : Here w W Ps) (hp : Ps.Perm Qs) : Here w W Qs := by
  obtain ⟨S, h1, h2⟩ := h
  exact ⟨S, h1.perm hp, h2⟩
theorem perm_nth : ∀ (Ps : List Thing) (n : Nat) (hn : n < Ps.length), Ps.Perm (Ps[n] :: Ps.eraseIdx n)
  | P :: Ps, 0, _ => by simp
  | P :: Ps, n + 1, hn => by
    have := perm_nth Ps n (by simpa using hn)
    simp only [List.getElem_cons_succ, List.eraseIdx_cons_succ]
    exact (this.cons P).trans (List.Perm.swap _ _ _)
/-- The n-th thing is put first. -/
theorem Here.nth {w W : World} {Ps : List Thing} (h : Here w W Ps) (n : Nat) (hn : n < Ps.length) : Here w W (Ps[n] :: Ps.eraseIdx n) :=
  h.perm (perm_nth Ps n hn)
/-- The things up to the n-th go. -/
theorem Here.lose {w W : World} : ∀ {Ps : List Thing} (_ : Here w W Ps) (n : Nat), Here w W (Ps.drop n)
  | _, h, 0 => h
  | [], h, _ + 1 => h
  | _ :: _, h, n + 1 => h.drop.lose n
theorem flush_now (d : Dm) : d.flush.now = d.now := rfl
theorem flush_q (d : Dm) : d.flush.q = [] := rfl
theorem i64_range {x : Int} (h : (Lit.int .i64 x).wf = true) : -9223372036854775808 ≤ x ∧ x ≤ 9223372036854775807 := by
  simp [Lit.wf, IntKind.min, IntKind.max, IntKind.signed, IntKind.bits] at h
  omega
/-- Cells of one's own. -/
def CellsT (g : Nat) (cs : Array Value) (t : TypeId) : Thing where
  at_ W S := W.heap[g]? = some (.cells cs t (0, 0)) ∧ ∀ k, S k ↔ k = g
  chg h hc hn := ⟨hc.blk h.1 (hn g ((h.2 g).2 rfl)), h.2⟩
  lt h k hk := by rw [(h.2 k).1 hk]; exact blk_lt h.1
theorem Here.cells {w W : World} {Ps : List Thing} {g : Nat} {cs : Array Value} {t : TypeId} (h : Here w W (CellsT g cs t :: Ps)) : W.heap[g]? = some (.cells cs t (0, 0)) := by
  obtain ⟨S, h1, _⟩ := h.get
  exact h1.1
theorem Here.newCells {w W : World} {Ps : List Thing} (h : Here w W Ps) (cs : Array Value) (t : TypeId) : Here w (W.alloc (.cells cs t)) (CellsT W.heap.size cs t :: Ps) :=
  h.add (P := CellsT W.heap.size cs t) (S' := fun k => k = W.heap.size) ⟨heap_alloc_new _ _, fun _ => Iff.rfl⟩ (below_alloc (Below.refl _ _) _) (fun k hk => by omega)
theorem settle_q (d : Dm) (last : Int) : (d.settle last).q = [] := rfl
theorem settle_len (d : Dm) (last : Int) : (d.settle last).b.length = d.b.length := putAll_length _ _
end Go.Proofs.Ytmbemlpmfklddaa.Own
