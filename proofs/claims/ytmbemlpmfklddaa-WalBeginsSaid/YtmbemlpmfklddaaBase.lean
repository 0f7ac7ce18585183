/- Small facts on memory that the walks share: slices of bytes that stand in new blocks, and what a call keeps. -/
import Derived.Test.YtmbemlpmfklddaaCrc
import Derived.Outline
import Derived.WalkSpells
import Derived.WalkLawsBesides
namespace Go.Proofs.Ytmbemlpmfklddaa.Own
open Go.RowKit Go.Proofs.YtmbemlpmfklddaaW.PrintWords Go.Proofs.YtmbemlpmfklddaaW.PrintLast Go.Proofs.YtmbemlpmfklddaaW.PrintMore

theorem add_off (g off j : Nat) : (⟨g, off, none⟩ : Addr).add j = ⟨g, off + j, none⟩ := by
  unfold Addr.add; split <;> simp_all
theorem C_blk {α : Type} {d : Kd α} (h1 : d.sz = 1) {w : World} {g off : Nat} {cs : Array Value} {t : TypeId} {fr : Nat × Nat} (hb : w.heap[g]? = some (.cells cs t fr)) {xs : List α} (hn : xs.length ≤ 9223372036854775807)
    (h : ∀ j x, xs[j]? = some x → ∃ u, cs[off + j]? = some u ∧ d.K w x [u]) : d.C w (some ⟨g, off, none⟩) xs.length xs := by
  refine ⟨rfl, hn, fun _ => ⟨_, rfl, fun j x hj => ?_⟩⟩
  obtain ⟨u, hu, hK⟩ := h j x hj
  refine ⟨[u], by simp [h1], hK, fun i v hv => ?_⟩
  have hi : i = 0 := by
    have := (List.getElem?_eq_some_iff.1 hv).1
    simpa using this
  subst hi
  have hvu : u = v := by simpa using hv
  subst hvu
  rw [h1, Nat.mul_one, Nat.add_zero, add_off, cell_of_row w g (off + j) cs t fr hb]
  exact hu
/-- One slice, in a new block of one cell. -/
theorem C_one {α : Type} {d : Kd α} {w : World} {x : α} {u : Value} {t : TypeId} (h1 : d.sz = 1) (hK : d.K w x [u]) : d.C (w.alloc (.cells #[u] t)) (some ⟨w.heap.size, 0, none⟩) [x].length [x] := by
  refine C_blk h1 (heap_alloc_new w _) (by simp) fun j y hj => ?_
  have hj0 : j = 0 := by
    have := (List.getElem?_eq_some_iff.1 hj).1
    simpa using this
  subst hj0
  have : x = y := by simpa using hj
  subst this
  exact ⟨u, rfl, d.K_below (below_alloc (Below.refl _ _) _) hK⟩
theorem K_bytes {w : World} {A : Option Addr} {c : Nat} {l : List Int} (h : (Kd.int .u8).C w A l.length l) (hc : l.length ≤ c) : (Kd.slice 5 (Kd.int .u8)).K w l [.slice A l.length c] := ⟨A, c, rfl, hc, h⟩

set_option maxHeartbeats 400000 in
set_option maxRecDepth 100000 in
theorem Of_calls (A : Option Addr) (c : Nat) (l : List Int) (w : World) (h : (Kd.int .u8).C w A l.length l) (hc : l.length ≤ c) :
    Calls Try.prog 17 #[.slice A l.length c] w fun e w' => e = .returned (.int .u32 (crcOf l)) ∧ Below w.heap.size w w' := by
  have H := Aside0.mk h
  clear h
  go_enter Try.func17, Try.ntmps17
  go_wp2_with fail
  refine (Join_calls (some ⟨w.heap.size, 0, none⟩) 1 [l] _ (C_one rfl (K_bytes H.out hc)) (by simp)).mono ?_
  rintro e w' ⟨rfl, hd⟩
  go_wp2_with fail
  go_ret
  refine ⟨?_, ?_⟩
  · simp
  · exact below_step (below_alloc (Below.refl _ _) _) hd.below

/-! Bytes of the call's own, and append onto them. -/
def OwnB (w : World) (base : Nat) (v : Value) (xs : List Int) : Prop := w.ownsRow base 5 1 v xs.length (nums .u8 xs)
theorem OwnB.below {w w1 : World} {base : Nat} {v : Value} {xs : List Int} (h : OwnB w base v xs) (hb : Below w.heap.size w w1) : OwnB w1 base v xs := pw_own_below h hb
theorem OwnB.slice {w : World} {base : Nat} {v : Value} {xs : List Int} (h : OwnB w base v xs) : ∃ A c, v = .slice A xs.length c ∧ xs.length ≤ c ∧ (Kd.int .u8).C w A xs.length xs := by
  obtain ⟨A, c, rfl, hr⟩ := own_reads h
  exact ⟨A, c, rfl, own_cap h, Kd.C_of_reads (d := (0 : Int)) (h1 := fun _ => rfl) hr⟩
theorem reads_of_CB {w : World} {A : Option Addr} {n : Nat} {xs : List Int} (h : (Kd.int .u8).C w A n xs) : ReadsInt w .u8 A n xs := Kd.reads_of_C (d := (0 : Int)) h
theorem info5 : (Try.prog.info? 5).map (fun i => (i.zero, i.size, i.bytes)) = some (some (.int .u8 0), 1, 1) := by kernel_rfl
section
variable {ops : Array Oper} {rest : List Oper} {o : Oper} {a : Act} {Q : Exit → Act → World → Prop}
theorem app_bytes {w0 W : World} (base : Nat) (hgd : o.guard = none) (s x : Operand) (ho : o.op = .call { callee := .builtin .append, args := #[s, x], argTypes := #[22, 22] })
    (v : Value) (xs ys : List Int) (A : Option Addr) (m c : Nat) (hs : a.eval s = v) (hx : a.eval x = .slice A m c) (hm : m = ys.length)
    (HO : OwnB W base v xs) (HR : (Kd.int .u8).C W A ys.length ys) (HB : Below base w0 W) (hbase : base ≤ W.heap.size) (hl : xs.length + ys.length ≤ 140737488355328)
    (h : ∀ v1 w1, OwnB w1 base v1 (xs ++ ys) → Below base w0 w1 → W.grownBy w1 v.ownBlock → wpList Try.prog ops Q rest (a.put o.dst v1) w1) : wpList Try.prog ops Q (o :: rest) a W := by
  subst hm
  exact print_append_row base hgd s x 22 5 .u8 1 ho Try.underlying22 info5 (by omega) v xs ys A _ c hs hx HO (reads_of_CB HR) HB hbase (by omega) (fun v1 w1 ho hb hg _ => h v1 w1 ho hb hg)
end
theorem own_empty (W : World) (base : Nat) (hb : base ≤ W.heap.size) : OwnB (W.alloc (.cells #[] 5)) base (.slice (some ⟨W.heap.size, 0, none⟩) 0 0) [] :=
  ⟨rfl, .inr ⟨_, 0, #[], rfl, hb, heap_alloc_new _ _, Nat.le_refl _, by simp [maxLen], rfl, rfl⟩⟩
end Go.Proofs.Ytmbemlpmfklddaa.Own
