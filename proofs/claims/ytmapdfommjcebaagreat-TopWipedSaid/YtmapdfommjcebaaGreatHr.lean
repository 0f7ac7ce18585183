/- Things in any order; cells of one's own as a thing. Records beside other things. Appending bytes to bytes of one's own, beside other things; the records that may be. A row of cells of one's own, as a thing; appending to it; noughts appended to bytes. Appending to a row of cells of one's own, outside a region. -/
import Derived.Test.YtmapdfommjcebaaGreatDka
import Derived.Test.YtmapdfommjcebaaGreatFrs
import Derived.Deep.RegionLaw
namespace Go.Proofs.YtmapdfommjcebaaGreat.Own
open Go.RowKit Go.Proofs.YtmapdfommjcebaaGreatW.PrintWords Go.Proofs.YtmapdfommjcebaaGreatW.PrintLast Go.Proofs.YtmapdfommjcebaaGreatW.PrintMore
theorem All.perm {W : World} {Ps Qs : List Thing} (hp : Ps.Perm Qs) : ∀ {S : Nat → Prop}, All W Ps S → All W Qs S := by
  induction hp with
  | nil => exact id
  | cons x _ ih => rintro S ⟨S1, S2, h1, h2, h3, h4⟩; exact ⟨S1, S2, h1, ih h2, h3, h4⟩
  | swap x y l => exact All.swap
  | trans _ _ ih1 ih2 => exact fun h => ih2 (ih1 h)
theorem Here.perm {w W : World} {Ps Qs : List Thing} (h : Here w W Ps) (hp : Ps.Perm Qs) : Here w W Qs := by
  obtain ⟨S, h1, h2⟩ := h
  exact ⟨S, h1.perm hp, h2⟩
theorem perm_nth : ∀ (Ps : List Thing) (n : Nat) (hn : n < Ps.length), Ps.Perm (Ps[n] :: Ps.eraseIdx n)
  | P :: Ps, 0, _ => by simp
  | P :: Ps, n + 1, hn => by
    have := perm_nth Ps n (by simpa using hn)
    simp only [List.getElem_cons_succ, List.eraseIdx_cons_succ]
    exact (this.cons P).trans (List.Perm.swap _ _ _)
/-- The n-th thing is put first. -/
theorem Here.nth {w W : World} {Ps : List Thing} (h : Here w W Ps) (n : Nat) (hn : n < Ps.length) : Here w W (Ps[n] :: Ps.eraseIdx n) :=
  h.perm (perm_nth Ps n hn)
/-- The things up to the n-th go. -/
theorem Here.lose {w W : World} : ∀ {Ps : List Thing} (_ : Here w W Ps) (n : Nat), Here w W (Ps.drop n)
  | _, h, 0 => h
  | [], h, _ + 1 => h
  | _ :: _, h, n + 1 => h.drop.lose n
theorem flush_now (d : Dm) : d.flush.now = d.now := rfl
theorem flush_q (d : Dm) : d.flush.q = [] := rfl
theorem i64_range {x : Int} (h : (Lit.int .i64 x).wf = true) : -9223372036854775808 ≤ x ∧ x ≤ 9223372036854775807 := by
  simp [Lit.wf, IntKind.min, IntKind.max, IntKind.signed, IntKind.bits] at h
  omega
/-- Cells of one's own. -/
def CellsT (g : Nat) (cs : Array Value) (t : TypeId) : Thing where
  at_ W S := W.heap[g]? = some (.cells cs t (0, 0)) ∧ ∀ k, S k ↔ k = g
  chg h hc hn := ⟨hc.blk h.1 (hn g ((h.2 g).2 rfl)), h.2⟩
  lt h k hk := by rw [(h.2 k).1 hk]; exact blk_lt h.1
theorem Here.cells {w W : World} {Ps : List Thing} {g : Nat} {cs : Array Value} {t : TypeId} (h : Here w W (CellsT g cs t :: Ps)) : W.heap[g]? = some (.cells cs t (0, 0)) := by
  obtain ⟨S, h1, _⟩ := h.get
  exact h1.1
theorem Here.newCells {w W : World} {Ps : List Thing} (h : Here w W Ps) (cs : Array Value) (t : TypeId) : Here w (W.alloc (.cells cs t)) (CellsT W.heap.size cs t :: Ps) :=
  h.add (P := CellsT W.heap.size cs t) (S' := fun k => k = W.heap.size) ⟨heap_alloc_new _ _, fun _ => Iff.rfl⟩ (below_alloc (Below.refl _ _) _) (fun k hk => by omega)
theorem settle_q (d : Dm) (last : Int) : (d.settle last).q = [] := rfl
theorem settle_len (d : Dm) (last : Int) : (d.settle last).b.length = d.b.length := putAll_length _ _
end Go.Proofs.YtmapdfommjcebaaGreat.Own
namespace Go.Proofs.YtmapdfommjcebaaGreat.Own
open Go.RowKit Go.Proofs.YtmapdfommjcebaaGreatW.PrintWords Go.Proofs.YtmapdfommjcebaaGreatW.PrintLast Go.Proofs.YtmapdfommjcebaaGreatW.PrintMore
/-- Records of one's own. -/
def RecsT (v : Value) (L : List Rec) : Thing where
  at_ W S := Kd.N WK 56 W 0 S v L ∧ ∀ k, S k → k < W.heap.size
  chg h hc hn := ⟨N_chg h.1 hc hn, fun k hk => Nat.lt_of_lt_of_le (h.2 k hk) hc.size⟩
  lt h := h.2
theorem Here.recs {w W : World} {Ps : List Thing} {v : Value} {L : List Rec} (h : Here w W (RecsT v L :: Ps)) : ∃ A c, v = .slice A L.length c ∧ L.length ≤ c ∧ WK.C W A L.length L := by
  obtain ⟨S, h1, _⟩ := h.get
  obtain ⟨A, c, e, hc, hC⟩ := Kd.N_reads h1.1
  exact ⟨A, c, e, hc, hC⟩
theorem ReadF_here {w W : World} {Ps : List Thing} (h : Here w W Ps) (A : Option Addr) (c : Nat) (b : List Int) (hC : (Kd.int .u8).C W A b.length b) (hc : b.length ≤ c) (hb : ∀ x ∈ b, 0 ≤ x ∧ x < 256) (hl : b.length ≤ 300000) :
    Calls Tryz.prog 12 #[.slice A b.length c] W fun e W' => ∃ v, e = .returned (.tuple #[v, .int .i64 (readR b).2.1, .int .i64 (readR b).2.2]) ∧ Here w W' (RecsT v (readR b).1 :: Ps) := by
  refine (Read_calls A c b W hC hc hb hl).mono ?_
  rintro e W' ⟨v, rfl, hN, hB⟩
  refine ⟨v, rfl, h.add (P := RecsT v (readR b).1) (S' := fun k => W.heap.size ≤ k ∧ k < W'.heap.size) ⟨?_, fun k hk => hk.2⟩ hB (fun k hk => hk.1)⟩
  exact Kd.N_lower (Kd.N_bound hN) (Nat.zero_le _)
theorem WriteF_here {w W : World} {Ps : List Thing} (h : Here w W Ps) (r : Rec) (A : Option Addr) (c : Nat) (hC : (Kd.int .u8).C W A r.2.length r.2) (hc : r.2.length ≤ c) (hr : okR r) :
    Calls Tryz.prog 27 #[.agg #[.int .i64 r.1, .slice A r.2.length c]] W fun e W' => ∃ v, e = .returned (.tuple #[v, .int .i64 0]) ∧ Here w W' (BytesT v (frameR r) :: Ps) := by
  refine (Write_ok r A c W hC hc hr).mono ?_
  rintro e W' ⟨v, rfl, ho, hB⟩
  exact ⟨v, rfl, h.addBytes hB ho⟩
theorem Here.put {w W : World} {Ps : List Thing} {g n cap : Nat} {l : List Int} (h : Here w W (BytesT (.slice (some ⟨g, 0, none⟩) n cap) l :: Ps)) (i : Nat) (x : Int) :
    Here w (W.setCell ⟨g, i, none⟩ (.int .u8 x)) (BytesT (.slice (some ⟨g, 0, none⟩) n cap) (l.set i x) :: Ps) := by
  obtain ⟨S, ⟨h1, h1'⟩, _, h2⟩ := h.get
  obtain rfl := (OwnB.cap h1).1
  have h3 := own_put h1 (i : Int) x
  rw [Int.toNat_natCast] at h3
  exact h2 (P' := BytesT (.slice (some ⟨g, 0, none⟩) l.length cap) (l.set i x)) (S' := S) ⟨h3, h1'⟩ (Chg.setCell (Chg.refl S W) (.inl ((h1' g).2 rfl)) _) (fun k hk => .inl hk)
theorem Here.byteAt {w W : World} {Ps : List Thing} {g n cap : Nat} {l : List Int} (h : Here w W (BytesT (.slice (some ⟨g, 0, none⟩) n cap) l :: Ps)) (i : Nat) (hi : i < n) :
    W.cell? ⟨g, i, none⟩ = some (.int .u8 (l.getD i 0)) ∧ W.frozen? ⟨g, i, none⟩ = false := by
  obtain ⟨S, ⟨h1, h1'⟩, _, h2⟩ := h.get
  obtain rfl := (OwnB.cap h1).1
  have h3 := own_at h1 (i : Int) (by omega) (by omega)
  rw [Int.toNat_natCast] at h3
  refine ⟨h3.1.trans ?_, h3.2⟩
  unfold rd
  rw [Int.toNat_natCast]
theorem Here.row {w W : World} {Ps : List Thing} {v : Value} {l : List Int} (h : Here w W (BytesT v l :: Ps)) (h0 : 0 < l.length) : ∃ g cap, v = .slice (some ⟨g, 0, none⟩) l.length cap ∧ l.length ≤ cap := by
  have h1 := h.bytes
  obtain ⟨g, cap, e, _, _⟩ := World.ownsRow.form h1 h0
  subst e
  exact ⟨g, cap, rfl, (OwnB.cap h1).2⟩
theorem ReadF_n {w W : World} {Ps : List Thing} (h : Here w W Ps) (A : Option Addr) (n c : Nat) (b : List Int) (hn : n = b.length) (hC : (Kd.int .u8).C W A b.length b) (hc : b.length ≤ c) (hb : ∀ x ∈ b, 0 ≤ x ∧ x < 256) (hl : b.length ≤ 300000) :
    Calls Tryz.prog 12 #[.slice A n c] W fun e W' => ∃ v, e = .returned (.tuple #[v, .int .i64 (readR b).2.1, .int .i64 (readR b).2.2]) ∧ Here w W' (RecsT v (readR b).1 :: Ps) := by
  subst hn
  exact ReadF_here h A c b hC hc hb hl
end Go.Proofs.YtmapdfommjcebaaGreat.Own
namespace Go.Proofs.YtmapdfommjcebaaGreat.Own
open Go.RowKit Go.Proofs.YtmapdfommjcebaaGreatW.PrintWords Go.Proofs.YtmapdfommjcebaaGreatW.PrintLast Go.Proofs.YtmapdfommjcebaaGreatW.PrintMore
section
variable {ops : Array Oper} {rest : List Oper} {o : Oper} {a : Act} {Q : Exit → Act → World → Prop}
theorem app_here {w W : World} {Ps : List Thing} {v : Value} {xs : List Int} (H : Here w W (BytesT v xs :: Ps)) (hgd : o.guard = none) (s x : Operand) (ho : o.op = .call { callee := .builtin .append, args := #[s, x], argTypes := #[29, 29] })
    (ys : List Int) (A : Option Addr) (m c : Nat) (hs : a.eval s = v) (hx : a.eval x = .slice A m c) (hm : m = ys.length)
    (HR : (Kd.int .u8).C W A ys.length ys) (hl : xs.length + ys.length ≤ 140737488355328)
    (h : ∀ v1 w1, Here w w1 (BytesT v1 (xs ++ ys) :: Ps) → wpList Tryz.prog ops Q rest (a.put o.dst v1) w1) : wpList Tryz.prog ops Q (o :: rest) a W := by
  subst hm
  obtain ⟨S, ⟨h1, h1'⟩, hS, h2⟩ := H.get
  refine print_append_row 0 hgd s x 29 5 .u8 1 ho Tryz.underlying29 info5 (by omega) v xs ys A _ c hs hx h1 (reads_of_CB HR) (Below.refl 0 W) (Nat.zero_le _) (by omega) (fun v1 w1 ho _ hg hb => h v1 w1 ?_)
  refine h2 (P' := BytesT v1 (xs ++ ys)) (S' := fun k => v1.ownBlock = some k) ⟨ho, fun _ => Iff.rfl⟩ (Chg.grown (Chg.refl S W) hg (fun k hk => .inl ((h1' k).2 hk))) (fun k hk => ?_)
  rcases hb with hb | ⟨b, hb, hw⟩
  · exact .inl ((h1' k).2 (hb ▸ hk))
  · rw [hb] at hk
    injection hk with hk
    exact .inr (hk ▸ hw)
end
theorem own_nil (W : World) (base : Nat) : OwnB W base (.slice none 0 0) [] := ⟨rfl, .inl ⟨rfl, rfl⟩⟩
theorem Here.addNil {w W : World} {Ps : List Thing} (h : Here w W Ps) : Here w W (BytesT (.slice none 0 0) [] :: Ps) :=
  h.addBytes (Below.refl _ _) (own_nil _ _)
theorem Here.addEmpty {w W : World} {Ps : List Thing} (h : Here w W Ps) : Here w (W.alloc (.cells #[] 5)) (BytesT (.slice (some ⟨W.heap.size, 0, none⟩) 0 0) [] :: Ps) :=
  h.addBytes (below_alloc (Below.refl _ _) _) (own_empty _ _ (Nat.le_refl _))
theorem bytes_of {w W : World} {Ps : List Thing} {l : List Int} {A : Option Addr} {n c : Nat} (h : Here w W (BytesT (.slice A n c) l :: Ps)) : (Kd.int .u8).C W A l.length l := by
  obtain ⟨A', c', e, _, h⟩ := h.bytes.slice
  injection e with e1 e2 e3
  subst e1
  exact h
theorem cells_keep4 {w w2 : World} {p0 p1 p2 p3 : Addr} {v0 v1 v2 v3 : Value} (h : w.cell? p0 = some v0 ∧ w.cell? p1 = some v1 ∧ w.cell? p2 = some v2 ∧ w.cell? p3 = some v3) (hb : Below w.heap.size w w2) :
    w2.cell? p0 = some v0 ∧ w2.cell? p1 = some v1 ∧ w2.cell? p2 = some v2 ∧ w2.cell? p3 = some v3 :=
  ⟨pw_cell_below hb h.1, pw_cell_below hb h.2.1, pw_cell_below hb h.2.2.1, pw_cell_below hb h.2.2.2⟩
theorem recs_of {w W : World} {Ps : List Thing} {L : List Rec} {A : Option Addr} {n c : Nat} (h : Here w W (RecsT (.slice A n c) L :: Ps)) : WK.C W A L.length L := by
  obtain ⟨A', c', e, _, h⟩ := h.recs
  injection e with e1 e2 e3
  subst e1
  exact h
/-! ### Records that may be -/
def oks (l : List Rec) (k : Nat) : List Rec := (l.take k).filter (fun r => decide (okR r))
theorem oks_zero (l : List Rec) : oks l 0 = [] := by simp [oks]
theorem oks_yes {l : List Rec} {k : Nat} (hk : k < l.length) (h : okR l[k]) : oks l (k + 1) = oks l k ++ [l[k]] := by
  unfold oks
  rw [List.take_add_one, List.getElem?_eq_getElem hk, List.filter_append]
  simp [h]
theorem oks_no {l : List Rec} {k : Nat} (hk : k < l.length) (h : ¬ okR l[k]) : oks l (k + 1) = oks l k := by
  unfold oks
  rw [List.take_add_one, List.getElem?_eq_getElem hk, List.filter_append]
  simp [h]
theorem oks_ok {l : List Rec} {k : Nat} : ∀ r ∈ oks l k, okR r := by
  intro r hr
  simpa using (List.mem_filter.1 hr).2
theorem oks_mem {l : List Rec} {k : Nat} : ∀ r ∈ oks l k, r ∈ l := fun _ hr => List.mem_of_mem_take (List.mem_filter.1 hr).1
theorem oks_len (l : List Rec) (k : Nat) : (oks l k).length ≤ k := Nat.le_trans (List.length_filter_le _ _) (by rw [List.length_take]; exact Nat.min_le_left _ _)
theorem readR_num (b : List Int) : (readR b).1.length ≤ b.length := by
  induction hn : b.length using Nat.strongRecOn generalizing b with
  | ind n ih =>
    by_cases h : 0 < (nextR b).2.1
    · have hl := next_le h
      rw [readR_step h]
      have := ih (b.drop (nextR b).2.1).length (by rw [List.length_drop]; omega) _ rfl
      rw [List.length_drop] at this
      simp only [List.length_cons]
      omega
    · rw [readR_stop (by omega)]
      exact Nat.zero_le _
theorem framesOf_append (L M : List Rec) : framesOf (L ++ M) = framesOf L ++ framesOf M := by simp [framesOf]
theorem framesOf_one (r : Rec) : framesOf [r] = frameR r := by simp [framesOf]
theorem framesOf_len {n : Nat} : ∀ (L : List Rec), (∀ r ∈ L, r.2.length ≤ n) → (framesOf L).length ≤ (n + 9) * L.length
  | [], _ => by simp [framesOf]
  | r :: L, h => by
    have h1 := framesOf_len L (fun x hx => h x (List.mem_cons_of_mem _ hx))
    have h2 := h r List.mem_cons_self
    rw [framesOf_cons, List.length_append, frameR_len, List.length_cons, Nat.mul_add]
    omega
theorem frameR_range {r : Rec} (h : ∀ x ∈ r.2, 0 ≤ x ∧ x < 256) : ∀ x ∈ frameR r, 0 ≤ x ∧ x < 256 := by
  intro x hx
  have e := frame_cons r []
  rw [List.append_nil] at e
  rw [e] at hx
  simp only [List.mem_cons, List.mem_append, List.not_mem_nil, or_false, fourB] at hx
  rcases hx with rfl | rfl | rfl | rfl | hx | hx | rfl
  · omega
  · omega
  · omega
  · omega
  · exact h x hx
  · omega
  · omega
theorem framesOf_range {L : List Rec} (h : ∀ r ∈ L, ∀ x ∈ r.2, 0 ≤ x ∧ x < 256) : ∀ x ∈ framesOf L, 0 ≤ x ∧ x < 256 := by
  intro x hx
  obtain ⟨b, hb, hx⟩ := List.mem_flatten.1 hx
  obtain ⟨r, hr, rfl⟩ := List.mem_map.1 hb
  exact frameR_range (h r hr) x hx
end Go.Proofs.YtmapdfommjcebaaGreat.Own
namespace Go.Proofs.YtmapdfommjcebaaGreat.Own
open Go.RowKit Go.Proofs.YtmapdfommjcebaaGreatW.PrintWords Go.Proofs.YtmapdfommjcebaaGreatW.PrintLast Go.Proofs.YtmapdfommjcebaaGreatW.PrintMore
/-- Rows of cells of one's own (elements of type e, sz cells each): just the cells, not what they lead to. -/
def RawT (sz e : Nat) (v : Value) (rows : List (List Value)) : Thing where
  at_ W S := (Kd.raw sz).R e W 0 (fun k => some k = v.ownBlock) v rows ∧ ∀ k, S k ↔ v.ownBlock = some k
  chg h hc hn := ⟨Kd.R_move h.1 (fun k hk => hc.block k (Kd.R_lt h.1 k hk.symm) (hn k ((h.2 k).2 hk.symm))), h.2⟩
  lt h k hk := Kd.R_lt h.1 k ((h.2 k).1 hk)
section
variable {w W : World} {Ps : List Thing} {v : Value} {rows : List (List Value)} {sz e : Nat}
theorem Here.addRaw (h : Here w W Ps) (sz e : Nat) : Here w W (RawT sz e (.slice none 0 0) [] :: Ps) :=
  h.add (P := RawT sz e (.slice none 0 0) []) (S' := fun _ => False) ⟨Kd.R_nil _ _ _ _ _, fun k => by simp [Value.ownBlock]⟩ (Below.refl _ _) (fun _ h => h.elim)
theorem Here.raw (h : Here w W (RawT sz e v rows :: Ps)) : ∃ A c, v = .slice A rows.length c ∧ rows.length ≤ c ∧ (Kd.raw sz).C W A rows.length rows := by
  obtain ⟨S, h1, _⟩ := h.get
  exact Kd.R_reads h1.1
/-- A literal of one element, as a row of cells. -/
theorem raw_lit {g : Nat} {t : TypeId} {fr : Nat × Nat} {cs : List Value} (hb : W.heap[g]? = some (.cells cs.toArray t fr)) (hl : cs.length = sz) (h1 : ∀ u ∈ cs, u.oneCell' = true) :
    ReadsRow ((Kd.raw sz).K W) sz W (some ⟨g, 0, none⟩) 1 [cs] := by
  refine ⟨rfl, by decide, fun _ => ⟨_, rfl, fun j p hj => ?_⟩⟩
  match j, hj with
  | 0, hj =>
    obtain rfl : cs = p := by simpa using hj
    refine ⟨cs, hl, ⟨rfl, hl, h1⟩, fun i u hu => ?_⟩
    have := cell_of_row W g i _ _ _ hb
    rw [add_plain, Nat.zero_mul, Nat.zero_add]
    rw [this]
    simpa using hu
variable {P : Program} {ops : Array Oper} {rest : List Oper} {o : Oper} {a : Act} {Q : Exit → Act → World → Prop} {Kc : Act → World → Prop}
theorem raw_app_step (sz t e : Nat) (z : Value) (bytes : Nat) (H : Here w W (RawT sz e v rows :: Ps)) (hw : Region.wanted o (yielded ops a.tmps) = true) (s x : Operand)
    (ho : o.op = .call { callee := .builtin .append, args := #[s, x], argTypes := #[t, t] })
    (ht : P.underlying t = some (.slice e)) (hinfo : (P.info? e).map (fun i => (i.zero, i.size, i.bytes)) = some (some z, sz, bytes)) (hz : z.cells.size = sz) (hs0 : 0 < sz) (hb0 : 0 < bytes)
    (ys : List (List Value)) (A : Option Addr) (m c : Nat) (hs : a.eval s = v) (hx : a.eval x = .slice A m c)
    (HR : ReadsRow ((Kd.raw sz).K W) sz W A m ys) (hl : (rows.length + m) * bytes ≤ 140737488355328)
    (h : ∀ v1 w1, Here w w1 (RawT sz e v1 (rows ++ ys) :: Ps) → W.grownBy w1 v.ownBlock → Kc (a.put o.dst v1) w1) :
    if Region.wanted o (yielded ops a.tmps) = true then Oper.wp P o a W Kc Q else Kc (a.put o.dst undef) W := by
  obtain ⟨S, ⟨h1, h1'⟩, hS, h2⟩ := H.get
  refine Kd.R_append_rows_step (Kd.raw sz) (w0 := W) 0 hw s x t e z bytes ho ht hinfo hz hs0 hb0 v rows ys A m c (fun _ => True) (fun _ => False) hs hx (Kd.raw_any h1) HR (fun _ _ hk => hk) (fun _ hk => hk.elim) (fun _ _ => trivial) (Below.refl 0 W) (Nat.zero_le _) hl (fun v1 w1 hr _ hg hat => h v1 w1 ?_ hg)
  refine h2 (P' := RawT sz e v1 (rows ++ ys)) (S' := fun k => v1.ownBlock = some k) ⟨Kd.raw_tight hr, fun _ => Iff.rfl⟩ (Chg.grown (Chg.refl S W) hg (fun k hk => .inl ((h1' k).2 hk))) (fun k hk => ?_)
  rcases hat with hb | ⟨b, hb, hw⟩
  · exact .inl ((h1' k).2 (hb ▸ hk))
  · rw [hb] at hk
    injection hk with hk
    exact .inr (hk ▸ hw)
theorem app0_here {xs : List Int} (H : Here w W (BytesT v xs :: Ps)) (hgd : o.guard = none) (s x : Operand) (ho : o.op = .call { callee := .builtin .append, args := #[s, x], argTypes := #[29, 3] })
    (n : Nat) (hs : a.eval s = v) (hx : a.eval x = .int .i64 n) (hl : xs.length + n ≤ 140737488355328)
    (h : ∀ v1 w1, Here w w1 (BytesT v1 (xs ++ List.replicate n 0) :: Ps) → wpList Tryz.prog ops Q rest (a.put o.dst v1) w1) : wpList Tryz.prog ops Q (o :: rest) a W := by
  obtain ⟨S, ⟨h1, h1'⟩, hS, h2⟩ := H.get
  refine Kd.R_append_zeros (Kd.int .u8) (w0 := W) 0 hgd s x 29 3 5 (.int .u8 0) 1 ho Tryz.underlying29 Tryz.underlying3 info5 rfl (by decide) (by decide) v xs 0 n (fun _ => True) hs hx rfl (fun _ _ => trivial) (Kd.R_of_own (h1 := fun _ => rfl) h1 (fun _ _ => trivial)) (by omega) (Below.refl 0 W) (Nat.zero_le _) (by omega) (fun v1 w1 hr _ hg hat => h v1 w1 ?_)
  have ho1 : OwnB w1 0 v1 (xs ++ List.replicate (n : Int).toNat 0) := Kd.own_of_R hr
  rw [Int.toNat_natCast] at ho1
  refine h2 (P' := BytesT v1 (xs ++ List.replicate n 0)) (S' := fun k => v1.ownBlock = some k) ⟨ho1, fun _ => Iff.rfl⟩ (Chg.grown (Chg.refl S W) hg (fun k hk => .inl ((h1' k).2 hk))) (fun k hk => ?_)
  rcases hat with hb | ⟨b, hb, hw⟩
  · exact .inl ((h1' k).2 (hb ▸ hk))
  · rw [hb] at hk
    injection hk with hk
    exact .inr (hk ▸ hw)
end
theorem cells_keep2 {w w2 : World} {p0 p1 : Addr} {v0 v1 : Value} (h : w.cell? p0 = some v0 ∧ w.cell? p1 = some v1) (hb : Below w.heap.size w w2) : w2.cell? p0 = some v0 ∧ w2.cell? p1 = some v1 :=
  ⟨pw_cell_below hb h.1, pw_cell_below hb h.2⟩
theorem fresh_ne {w2 : World} {v : Value} {g : Nat} (hlt : ∀ k, v.ownBlock = some k → k < w2.heap.size) (hg : w2.heap.size ≤ g) : some g ≠ v.ownBlock := fun h => by
  have h1 := hlt _ h.symm
  omega
theorem Here.rawLt {w W : World} {Ps : List Thing} {v : Value} {rows : List (List Value)} {sz e : Nat} (h : Here w W (RawT sz e v rows :: Ps)) : ∀ k, v.ownBlock = some k → k < W.heap.size := by
  obtain ⟨S, h1, _⟩ := h.get
  exact Kd.R_lt h1.1
theorem info3 : (Tryz.prog.info? 3).map (fun i => (i.zero, i.size, i.bytes)) = some (some (.int .i64 0), 1, 8) := by kernel_rfl
/-! ### Ends of frames, and records told by their cells -/
def endsOf (L : List Rec) : List (List Value) := (List.range L.length).map (fun j => [.int .i64 ((framesOf (L.take (j + 1))).length : Int)])
theorem endsOf_len (L : List Rec) : (endsOf L).length = L.length := by simp [endsOf]
theorem endsOf_snoc (L : List Rec) (r : Rec) : endsOf (L ++ [r]) = endsOf L ++ [[.int .i64 ((framesOf (L ++ [r])).length : Int)]] := by
  unfold endsOf
  rw [List.length_append, List.length_singleton, List.range_succ, List.map_append]
  congr 1
  · apply List.map_congr_left
    intro j hj
    have := List.mem_range.1 hj
    rw [List.take_append_of_le_length (by omega)]
  · rw [List.map_singleton, List.take_of_length_le (by simp)]
theorem endsOf_get {L : List Rec} {j : Nat} (hj : j < L.length) : (endsOf L)[j]? = some [.int .i64 ((framesOf (L.take (j + 1))).length : Int)] := by
  unfold endsOf
  rw [List.getElem?_map, List.getElem?_range hj]
  rfl
/-- Cells that tell records, whose bytes stand in w. -/
def Told (w : World) (rows : List (List Value)) (L : List Rec) : Prop :=
  rows.length = L.length ∧ ∀ (j : Nat) (r : Rec), L[j]? = some r → ∃ A c, rows[j]? = some [.int .i64 r.1, .slice A r.2.length c] ∧ r.2.length ≤ c ∧ (Kd.int .u8).C w A r.2.length r.2
theorem Told.nil (w : World) : Told w [] [] := ⟨rfl, fun j r hj => by simp at hj⟩
theorem Told.snoc {w : World} {rows : List (List Value)} {L : List Rec} (h : Told w rows L) {r : Rec} {A : Option Addr} {c : Nat} (hc : r.2.length ≤ c) (hC : (Kd.int .u8).C w A r.2.length r.2) :
    Told w (rows ++ [[.int .i64 r.1, .slice A r.2.length c]]) (L ++ [r]) := by
  refine ⟨by rw [List.length_append, List.length_append, h.1]; rfl, fun j x hj => ?_⟩
  by_cases hl : j < L.length
  · rw [List.getElem?_append_left hl] at hj
    rw [List.getElem?_append_left (by rw [h.1]; exact hl)]
    exact h.2 j x hj
  · rw [List.getElem?_append_right (by omega)] at hj
    obtain ⟨h1, rfl⟩ : j = L.length ∧ r = x := by
      have := (List.getElem?_eq_some_iff.1 hj).1
      simp only [List.length_singleton] at this
      have e : j - L.length = 0 := by omega
      rw [e] at hj
      exact ⟨by omega, by simpa using hj⟩
    rw [List.getElem?_append_right (by rw [h.1]; omega), h.1, h1, Nat.sub_self]
    exact ⟨A, c, rfl, hc, hC⟩
theorem framesOf_take_mono (L : List Rec) {i j : Nat} (h : i ≤ j) : (framesOf (L.take i)).length ≤ (framesOf (L.take j)).length := by
  have e : L.take j = L.take i ++ (L.take j).drop i := by
    conv => lhs; rw [← List.take_append_drop i (L.take j)]
    rw [List.take_take, Nat.min_eq_left h]
  rw [e, framesOf_append, List.length_append]
  omega
section
variable {w W : World} {Ps : List Thing} {v : Value} {rows : List (List Value)} {ops : Array Oper} {rest : List Oper} {o : Oper} {a : Act} {Q : Exit → Act → World → Prop} {Kc : Act → World → Prop}
theorem one1 (x : Int) : ∀ u ∈ [Value.int .i64 x], u.oneCell' = true := by
  intro u hu
  rw [List.mem_singleton.1 hu]
  rfl
theorem one2 (x : Int) (A : Option Addr) (n c : Nat) : ∀ u ∈ [Value.int .i64 x, .slice A n c], u.oneCell' = true := by
  intro u hu
  rcases List.mem_cons.1 hu with rfl | hu
  · rfl
  · rw [List.mem_singleton.1 hu]
    rfl
/-- append(ends, n): n in a literal of one element. -/
theorem ends_app (H : Here w W (RawT 1 3 v rows :: Ps)) (hw : Region.wanted o (yielded ops a.tmps) = true) (s x : Operand) (ho : o.op = .call { callee := .builtin .append, args := #[s, x], argTypes := #[138, 138] })
    (n : Int) (g : Nat) (hs : a.eval s = v) (hx : a.eval x = .slice (some ⟨g, 0, none⟩) 1 1) (hb : W.heap[g]? = some (.cells #[.int .i64 n] 3 (0, 0))) (hl : rows.length ≤ 1000000)
    (h : ∀ v1 w1, Here w w1 (RawT 1 3 v1 (rows ++ [[.int .i64 n]]) :: Ps) → W.grownBy w1 v.ownBlock → Kc (a.put o.dst v1) w1) :
    if Region.wanted o (yielded ops a.tmps) = true then Oper.wp Tryz.prog o a W Kc Q else Kc (a.put o.dst undef) W :=
  raw_app_step 1 138 3 (.int .i64 0) 8 H hw s x ho Tryz.underlying138 info3 rfl (by decide) (by decide) [[.int .i64 n]] _ 1 1 hs hx (raw_lit (cs := [.int .i64 n]) hb rfl (one1 n)) (by omega) h
/-- append(told, r): r in a literal of one element. -/
theorem told_app (H : Here w W (RawT 2 56 v rows :: Ps)) (hw : Region.wanted o (yielded ops a.tmps) = true) (s x : Operand) (ho : o.op = .call { callee := .builtin .append, args := #[s, x], argTypes := #[52, 52] })
    (n : Int) (A : Option Addr) (m c g : Nat) (hs : a.eval s = v) (hx : a.eval x = .slice (some ⟨g, 0, none⟩) 1 1) (hb : W.heap[g]? = some (.cells #[.int .i64 n, .slice A m c] 56 (0, 0))) (hl : rows.length ≤ 1000000)
    (h : ∀ v1 w1, Here w w1 (RawT 2 56 v1 (rows ++ [[.int .i64 n, .slice A m c]]) :: Ps) → W.grownBy w1 v.ownBlock → Kc (a.put o.dst v1) w1) :
    if Region.wanted o (yielded ops a.tmps) = true then Oper.wp Tryz.prog o a W Kc Q else Kc (a.put o.dst undef) W :=
  raw_app_step 2 52 56 (.agg #[.int .i64 0, .slice none 0 0]) 32 H hw s x ho Tryz.underlying52 info49 rfl (by decide) (by decide) [[.int .i64 n, .slice A m c]] _ 1 1 hs hx (raw_lit (cs := [.int .i64 n, .slice A m c]) hb rfl (one2 n A m c)) (by omega) h
end
theorem atRaw1 {w : World} {A : Option Addr} {n i : Nat} {rows : List (List Value)} {u : Value} (h : (Kd.raw 1).C w A n rows) (hi : rows[i]? = some [u]) : ∃ ad, A = some ad ∧ w.cell? (ad.add i) = some u := by
  have hl := (List.getElem?_eq_some_iff.1 hi).1
  obtain ⟨ad, e, hc⟩ := h.2.2 (by have := h.1; omega)
  obtain ⟨c, _, hK, hcc⟩ := hc i _ hi
  obtain ⟨rfl, _, _⟩ := hK
  have h0 : w.cell? (ad.add (i * 1)) = some u := hcc 0 u rfl
  rw [Nat.mul_one] at h0
  exact ⟨ad, e, h0⟩
theorem atRaw2 {w : World} {A : Option Addr} {n i : Nat} {rows : List (List Value)} {u0 u1 : Value} (h : (Kd.raw 2).C w A n rows) (hi : rows[i]? = some [u0, u1]) :
    ∃ ad, A = some ad ∧ w.cell? (ad.add (i * 2)) = some u0 ∧ w.cell? ⟨(ad.add (i * 2)).block, (ad.add (i * 2)).off + 1, none⟩ = some u1 := by
  have hl := (List.getElem?_eq_some_iff.1 hi).1
  obtain ⟨ad, e, hc⟩ := h.2.2 (by have := h.1; omega)
  obtain ⟨c, _, hK, hcc⟩ := hc i _ hi
  obtain ⟨rfl, _, _⟩ := hK
  have h0 := hcc 0 u0 rfl
  have h1 := hcc 1 u1 rfl
  refine ⟨ad, e, h0, ?_⟩
  rw [← add_field _ _ 1 (by omega)]
  exact h1
theorem raw_of {w W : World} {Ps : List Thing} {rows : List (List Value)} {sz e n c : Nat} {A : Option Addr} (h : Here w W (RawT sz e (.slice A n c) rows :: Ps)) : (Kd.raw sz).C W A rows.length rows := by
  obtain ⟨A', c', e, _, h⟩ := h.raw
  injection e with e1 e2 e3
  subst e1
  exact h
end Go.Proofs.YtmapdfommjcebaaGreat.Own
namespace Go.Proofs.YtmapdfommjcebaaGreat.Own
open Go.RowKit Go.Proofs.YtmapdfommjcebaaGreatW.PrintWords Go.Proofs.YtmapdfommjcebaaGreatW.PrintLast Go.Proofs.YtmapdfommjcebaaGreatW.PrintMore
section
variable {w W : World} {Ps : List Thing} {v : Value} {rows : List (List Value)} {P : Program} {ops : Array Oper} {rest : List Oper} {o : Oper} {a : Act} {Q : Exit → Act → World → Prop}
theorem raw_app1 (sz t e : Nat) (z : Value) (bytes : Nat) (H : Here w W (RawT sz e v rows :: Ps)) (hgd : o.guard = none) (s x : Operand)
    (ho : o.op = .call { callee := .builtin .append, args := #[s, x], argTypes := #[t, t] })
    (ht : P.underlying t = some (.slice e)) (hinfo : (P.info? e).map (fun i => (i.zero, i.size, i.bytes)) = some (some z, sz, bytes)) (hz : z.cells.size = sz) (hs0 : 0 < sz) (hb0 : 0 < bytes)
    (ys : List (List Value)) (A : Option Addr) (m c : Nat) (hs : a.eval s = v) (hx : a.eval x = .slice A m c)
    (HR : ReadsRow ((Kd.raw sz).K W) sz W A m ys) (hl : (rows.length + m) * bytes ≤ 140737488355328)
    (h : ∀ v1 w1, Here w w1 (RawT sz e v1 (rows ++ ys) :: Ps) → W.grownBy w1 v.ownBlock → wpList P ops Q rest (a.put o.dst v1) w1) :
    wpList P ops Q (o :: rest) a W := by
  obtain ⟨S, ⟨h1, h1'⟩, hS, h2⟩ := H.get
  refine Kd.R_append_rows (Kd.raw sz) (Rr := (Kd.raw sz).K W) (w0 := W) 0 hgd s x t e z bytes ho ht hinfo hz hs0 hb0 v rows ys A m c (fun _ => True) (fun _ => False) hs hx (Kd.raw_any h1) HR (fun _ _ hk => hk) (fun _ hk => hk.elim) (fun _ _ => trivial) (Below.refl 0 W) (Nat.zero_le _) hl (fun v1 w1 hr _ hg hat => h v1 w1 ?_ hg)
  refine h2 (P' := RawT sz e v1 (rows ++ ys)) (S' := fun k => v1.ownBlock = some k) ⟨Kd.raw_tight hr, fun _ => Iff.rfl⟩ (Chg.grown (Chg.refl S W) hg (fun k hk => .inl ((h1' k).2 hk))) (fun k hk => ?_)
  rcases hat with hb | ⟨b, hb, hw⟩
  · exact .inl ((h1' k).2 (hb ▸ hk))
  · rw [hb] at hk
    injection hk with hk
    exact .inr (hk ▸ hw)
end
end Go.Proofs.YtmapdfommjcebaaGreat.Own
