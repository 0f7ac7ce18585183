/- Appending bytes to bytes of one's own, beside other things; the records that may be. -/
import Derived.Test.YtmbemlpmfklddaaFrAlive
namespace Go.Proofs.Ytmbemlpmfklddaa.Own
open Go.RowKit Go.Proofs.YtmbemlpmfklddaaW.PrintWords Go.Proofs.YtmbemlpmfklddaaW.PrintLast Go.Proofs.YtmbemlpmfklddaaW.PrintMore
section
variable {ops : Array Oper} {rest : List Oper} {o : Oper} {a : Act} {Q : Exit → Act → World → Prop}
theorem app_here {w W : World} {Ps : List Thing} {v : Value} {xs : List Int} (H : Here w W (BytesT v xs :: Ps)) (hgd : o.guard = none) (s x : Operand) (ho : o.op = .call { callee := .builtin .append, args := #[s, x], argTypes := #[22, 22] })
    (ys : List Int) (A : Option Addr) (m c : Nat) (hs : a.eval s = v) (hx : a.eval x = .slice A m c) (hm : m = ys.length)
    (HR : (Kd.int .u8).C W A ys.length ys) (hl : xs.length + ys.length ≤ 140737488355328)
    (h : ∀ v1 w1, Here w w1 (BytesT v1 (xs ++ ys) :: Ps) → wpList Try.prog ops Q rest (a.put o.dst v1) w1) : wpList Try.prog ops Q (o :: rest) a W := by
  subst hm
  obtain ⟨S, ⟨h1, h1'⟩, hS, h2⟩ := H.get
  refine print_append_row 0 hgd s x 22 5 .u8 1 ho Try.underlying22 info5 (by omega) v xs ys A _ c hs hx h1 (reads_of_CB HR) (Below.refl 0 W) (Nat.zero_le _) (by omega) (fun v1 w1 ho _ hg hb => h v1 w1 ?_)
  refine h2 (P' := BytesT v1 (xs ++ ys)) (S' := fun k => v1.ownBlock = some k) ⟨ho, fun _ => Iff.rfl⟩ (Chg.grown (Chg.refl S W) hg (fun k hk => .inl ((h1' k).2 hk))) (fun k hk => ?_)
  rcases hb with hb | ⟨b, hb, hw⟩
  · exact .inl ((h1' k).2 (hb ▸ hk))
  · rw [hb] at hk
    injection hk with hk
    exact .inr (hk ▸ hw)
end
theorem own_nil (W : World) (base : Nat) : OwnB W base (.slice none 0 0) [] := ⟨rfl, .inl ⟨rfl, rfl⟩⟩
theorem Here.addNil {w W : World} {Ps : List Thing} (h : Here w W Ps) : Here w W (BytesT (.slice none 0 0) [] :: Ps) :=
  h.addBytes (Below.refl _ _) (own_nil _ _)
theorem Here.addEmpty {w W : World} {Ps : List Thing} (h : Here w W Ps) : Here w (W.alloc (.cells #[] 5)) (BytesT (.slice (some ⟨W.heap.size, 0, none⟩) 0 0) [] :: Ps) :=
  h.addBytes (below_alloc (Below.refl _ _) _) (own_empty _ _ (Nat.le_refl _))
theorem bytes_of {w W : World} {Ps : List Thing} {l : List Int} {A : Option Addr} {n c : Nat} (h : Here w W (BytesT (.slice A n c) l :: Ps)) : (Kd.int .u8).C W A l.length l := by
  obtain ⟨A', c', e, _, h⟩ := h.bytes.slice
  injection e with e1 e2 e3
  subst e1
  exact h
theorem cells_keep4 {w w2 : World} {p0 p1 p2 p3 : Addr} {v0 v1 v2 v3 : Value} (h : w.cell? p0 = some v0 ∧ w.cell? p1 = some v1 ∧ w.cell? p2 = some v2 ∧ w.cell? p3 = some v3) (hb : Below w.heap.size w w2) :
    w2.cell? p0 = some v0 ∧ w2.cell? p1 = some v1 ∧ w2.cell? p2 = some v2 ∧ w2.cell? p3 = some v3 :=
  ⟨pw_cell_below hb h.1, pw_cell_below hb h.2.1, pw_cell_below hb h.2.2.1, pw_cell_below hb h.2.2.2⟩
theorem recs_of {w W : World} {Ps : List Thing} {L : List Rec} {A : Option Addr} {n c : Nat} (h : Here w W (RecsT (.slice A n c) L :: Ps)) : WK.C W A L.length L := by
  obtain ⟨A', c', e, _, h⟩ := h.recs
  injection e with e1 e2 e3
  subst e1
  exact h
/-! ### Records that may be -/
def oks (l : List Rec) (k : Nat) : List Rec := (l.take k).filter (fun r => decide (okR r))
theorem oks_zero (l : List Rec) : oks l 0 = [] := by simp [oks]
theorem oks_yes {l : List Rec} {k : Nat} (hk : k < l.length) (h : okR l[k]) : oks l (k + 1) = oks l k ++ [l[k]] := by
  unfold oks
  rw [List.take_add_one, List.getElem?_eq_getElem hk, List.filter_append]
  simp [h]
theorem oks_no {l : List Rec} {k : Nat} (hk : k < l.length) (h : ¬ okR l[k]) : oks l (k + 1) = oks l k := by
  unfold oks
  rw [List.take_add_one, List.getElem?_eq_getElem hk, List.filter_append]
  simp [h]
theorem oks_ok {l : List Rec} {k : Nat} : ∀ r ∈ oks l k, okR r := by
  intro r hr
  simpa using (List.mem_filter.1 hr).2
theorem oks_mem {l : List Rec} {k : Nat} : ∀ r ∈ oks l k, r ∈ l := fun _ hr => List.mem_of_mem_take (List.mem_filter.1 hr).1
theorem oks_len (l : List Rec) (k : Nat) : (oks l k).length ≤ k := Nat.le_trans (List.length_filter_le _ _) (by rw [List.length_take]; exact Nat.min_le_left _ _)
theorem readR_num (b : List Int) : (readR b).1.length ≤ b.length := by
  induction hn : b.length using Nat.strongRecOn generalizing b with
  | ind n ih =>
    by_cases h : 0 < (nextR b).2.1
    · have hl := next_le h
      rw [readR_step h]
      have := ih (b.drop (nextR b).2.1).length (by rw [List.length_drop]; omega) _ rfl
      rw [List.length_drop] at this
      simp only [List.length_cons]
      omega
    · rw [readR_stop (by omega)]
      exact Nat.zero_le _
theorem framesOf_append (L M : List Rec) : framesOf (L ++ M) = framesOf L ++ framesOf M := by simp [framesOf]
theorem framesOf_one (r : Rec) : framesOf [r] = frameR r := by simp [framesOf]
theorem framesOf_len {n : Nat} : ∀ (L : List Rec), (∀ r ∈ L, r.2.length ≤ n) → (framesOf L).length ≤ (n + 9) * L.length
  | [], _ => by simp [framesOf]
  | r :: L, h => by
    have h1 := framesOf_len L (fun x hx => h x (List.mem_cons_of_mem _ hx))
    have h2 := h r List.mem_cons_self
    rw [framesOf_cons, List.length_append, frameR_len, List.length_cons, Nat.mul_add]
    omega
theorem frameR_range {r : Rec} (h : ∀ x ∈ r.2, 0 ≤ x ∧ x < 256) : ∀ x ∈ frameR r, 0 ≤ x ∧ x < 256 := by
  intro x hx
  have e := frame_cons r []
  rw [List.append_nil] at e
  rw [e] at hx
  simp only [List.mem_cons, List.mem_append, List.not_mem_nil, or_false, fourB] at hx
  rcases hx with rfl | rfl | rfl | rfl | hx | hx | rfl
  · omega
  · omega
  · omega
  · omega
  · exact h x hx
  · omega
  · omega
theorem framesOf_range {L : List Rec} (h : ∀ r ∈ L, ∀ x ∈ r.2, 0 ≤ x ∧ x < 256) : ∀ x ∈ framesOf L, 0 ≤ x ∧ x < 256 := by
  intro x hx
  obtain ⟨b, hb, hx⟩ := List.mem_flatten.1 hx
  obtain ⟨r, hr, rfl⟩ := List.mem_map.1 hb
  exact frameR_range (h r hr) x hx
end Go.Proofs.Ytmbemlpmfklddaa.Own
