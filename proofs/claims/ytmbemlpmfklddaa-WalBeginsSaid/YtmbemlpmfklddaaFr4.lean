/- All records that stand on bytes: the walk. -/
import Derived.Test.YtmbemlpmfklddaaFr3
import Derived.Test.YtmbemlpmfklddaaDk1
import Derived.Test.YtmbemlpmfklddaaDsk
import Derived.WalkMore
import Derived.ScopeJumps
namespace Go.Proofs.Ytmbemlpmfklddaa.Own
open Go.RowKit Go.Proofs.YtmbemlpmfklddaaW.PrintWords Go.Proofs.YtmbemlpmfklddaaW.PrintLast Go.Proofs.YtmbemlpmfklddaaW.PrintMore
set_option linter.unusedSimpArgs false
theorem info49 : (Try.prog.info? 49).map (fun i => (i.zero, i.size, i.bytes)) = some (some (.agg #[.int .i64 0, .slice none 0 0]), 2, 32) := by kernel_rfl
section
variable {ops : Array Oper} {rest : List Oper} {o : Oper} {a : Act} {Q : Exit → Act → World → Prop}
theorem app_rec {w0 W : World} (base : Nat) (hgd : o.guard = none) (s x : Operand) (ho : o.op = .call { callee := .builtin .append, args := #[s, x], argTypes := #[46, 46] })
    (v : Value) (L : List Rec) (r : Rec) (v1 : Value) (ok : Nat → Prop) (base1 : Nat) (hs : a.eval s = v) (hx : a.eval x = .slice (some ⟨W.heap.size, 0, none⟩) 1 1)
    (hO : OwnB W base1 v1 r.2) (hokp : ∀ k, v1.ownBlock = some k → ok k ∧ some k ≠ v.ownBlock) (hfresh : ∀ k, W.heap.size ≤ k → ok k)
    (HO : Kd.N WK 49 W base ok v L) (HB : Below base w0 W) (hbase : base ≤ W.heap.size) (hl : L.length + 1 ≤ 4000000000)
    (h : ∀ v2 w1, Kd.N WK 49 w1 base ok v2 (L ++ [r]) → Below base w0 w1 → W.grownBy w1 v.ownBlock → (v2.ownBlock = v.ownBlock ∨ ∃ b, v2.ownBlock = some b ∧ W.heap.size ≤ b) → wpList Try.prog ops Q rest (a.put o.dst v2) w1) :
    wpList Try.prog ops Q (o :: rest) a (W.alloc (.cells #[.int .i64 r.1, v1] 49)) :=
  Kd.N_append WK base hgd s x 46 49 (.agg #[.int .i64 0, .slice none 0 0]) 32 ho Try.underlying46 info49 rfl (by decide) (by omega) v L r [.int .i64 r.1, v1] ok (fun k => v1.ownBlock = some k) hs hx (FK_write hO) hokp hfresh HO HB hbase (by omega) h
end
theorem jump_ret {l : Nat} {J : Act → World → Prop} {Q : Exit → Act → World → Prop} {a : Act} {w : World} : Exit.jump l J Q .ret a w = Q .ret a w := rfl
/-- What holds at each jump back. -/
structure RdAt (w W : World) (b : List Int) (v : Value) (L : List Rec) (p : Nat) : Prop where
  row : Kd.N WK 49 W w.heap.size (fun k => w.heap.size ≤ k) v L
  bel : Below w.heap.size w W
  says : readR b = (L ++ (readR (b.drop p)).1, p + (readR (b.drop p)).2.1, (readR (b.drop p)).2.2)
  few : L.length ≤ p
theorem RdAt.start (w : World) (b : List Int) : RdAt w w b (.slice none 0 0) [] 0 := ⟨Kd.N_nil _ _ _ _ _, Below.refl _ _, by simp, Nat.le_refl _⟩
set_option maxHeartbeats 1000000 in
set_option maxRecDepth 100000 in
theorem Read_calls (A : Option Addr) (c : Nat) (b : List Int) (w : World) (h : (Kd.int .u8).C w A b.length b) (hc : b.length ≤ c) (hb : ∀ x ∈ b, 0 ≤ x ∧ x < 256) (hl : b.length ≤ 300000) :
    Calls Try.prog 29 #[.slice A b.length c] w fun e w' => ∃ v, e = .returned (.tuple #[v, .int .i64 (readR b).2.1, .int .i64 (readR b).2.2]) ∧ Kd.N WK 49 w' w.heap.size (fun k => w.heap.size ≤ k) v (readR b).1 ∧ Below w.heap.size w w' := by
  have hu49 := Try.underlying49
  have H := Aside0.mk h
  clear h
  go_enter Try.func29, Try.ntmps29
  go_wp2_with fail
  refine wp_scope_jumps 0 (fun a' W => ∃ (L : List Rec) (at_ : Nat) (v5 u1 u7 u8 u9 u10 u11 u12 u13 u14 u15 u16 u17 u18 u19 u20 u21 u22 u23 u24 u25 u26 u27 u28 u29 u30 u31 u32 u33 : Value), a' = { tmps := #[.slice A b.length c, u1, .slice none 0 0, .int .i64 0, .int .i64 0, v5, .int .i64 at_, u7, u8, u9, u10, u11, u12, u13, u14, u15, u16, u17, u18, u19, u20, u21, u22, u23, u24, u25, u26, u27, u28, u29, u30, u31, u32, u33], defers := [] } ∧ at_ ≤ b.length ∧ Aside0 (RdAt w W b v5 L at_)) (fun a' _ => b.length - (intOf (a'.tmps.getD 6 undef)).toNat) rfl ?_ ?_
  · have HR := Aside0.mk (RdAt.start w b)
    go_wp2_with fail
    go_step3
    have hc0 : 0 ≤ b.length := Nat.zero_le _
    have ht := run_drop A b.length c (0 : Int) (by omega) (by omega)
    obtain ⟨a2, ha2⟩ : ∃ a2, a2 = (if c = (0 : Int).toNat then A else A.map (·.add ((0 : Int).toNat * 1))) := ⟨_, rfl⟩
    obtain ⟨b2, hb2⟩ : ∃ b2, b2 = b.drop 0 := ⟨_, rfl⟩
    obtain ⟨c2, hc2⟩ : ∃ c2, c2 = c - 0 := ⟨_, rfl⟩
    have hbl : b2.length = b.length - 0 := by rw [hb2, List.length_drop]
    have hN : (0 : Int).toNat = 0 := by omega
    rw [← ha2, hN, ← hbl, ← hc2] at ht
    have k2 : b2.length ≤ c2 := by omega
    have C2 : (Kd.int .u8).C w a2 b2.length b2 := by
      have := Kd.C_drop (m := 0) H.out hc0 hc
      rw [← hb2] at this
      rw [ha2, hN]
      exact this
    have HC2 := Aside0.mk C2
    have HBB := Aside0.mk (show ∀ x ∈ b2, 0 ≤ x ∧ x < 256 from fun x hx => hb x (List.mem_of_mem_drop (by rw [← hb2]; exact hx)))
    have HB2 := Aside0.mk hb2
    have HBL := Aside0.mk hbl
    have HWB := Aside0.mk HR.out.bel
    clear ha2 hb2 hc2 C2 hbl hN
    by_cases hn : 0 < (nextR b2).2.1
    · obtain ⟨e0, _⟩ := next_pos hn
      have hle := next_le hn
      have HE := Aside0.mk (readR_step hn)
      obtain ⟨x, hx⟩ : ∃ x, x = (nextR b2).1 := ⟨_, rfl⟩
      obtain ⟨m, hm⟩ : ∃ m, m = (nextR b2).2.1 := ⟨_, rfl⟩
      have E0 := Aside0.mk (show nextR b2 = (x, m, 0) by rw [hx, hm, e0])
      rw [← hm] at hn hle
      rw [← hx, ← hm] at HE
      clear hx hm e0
      have q1 : decide (0 < (m : Int)) = true := decide_eq_true (by omega)
      have q2 : 0 < m := hn
      have w1 : IntKind.i64.wrap ((0 : Int) + (m : Int)) = (0 : Int) + (m : Int) := IntWalk.i64_in _ ⟨by omega, by have := HBL.out; omega⟩
      have w2 : IntKind.i64.wrap (m : Int) = (m : Int) := IntWalk.i64_in _ ⟨by omega, by have := HBL.out; omega⟩
      go_wp2_with (first
        | (go_at_call 68; go_must (refine (next_calls a2 c2 b2 _ (by exact Kd.C_below HC2.out HWB.out) k2 HBB.out).mono ?_; rw [E0.out]; rintro e w3 ⟨v, rfl, ho, hbb⟩; have hs := OwnB.slice ho; obtain ⟨A5, c5, hv, k5, _⟩ := hs; subst hv; have HO := Aside0.mk ho; have HB3 := Aside0.mk hbb; clear ho hbb))
        | (at_builtin; go_must (refine app_rec w.heap.size rfl (.tmp 24) (.tmp 26) rfl (.slice none 0 0) [] x (.slice A5 x.2.length c5) (fun k => w.heap.size ≤ k) w.heap.size rfl (congrArg (fun g => Value.slice (some ⟨g, 0, none⟩) 1 1) (show w3.heap.size + 1 = (w3.alloc _).heap.size by simp)) (HO.out.below (below_alloc (Below.refl _ _) _)) (fun k hk => ⟨by have h1 := own_base HO.out k hk; have h2 := HWB.out.size; omega, fun e => by have h1 := own_base HO.out k hk; have h2 := Kd.N_lt HR.out.row k e.symm; omega⟩) (fun k hk => by have h1 := HWB.out.size; have h2 := HB3.out.size; simp at hk; omega) (Kd.N_below HR.out.row (below_alloc HB3.out _)) (below_alloc (below_step HWB.out HB3.out) _) (below_alloc (below_step HWB.out HB3.out) _).size (by have := HR.out.few; omega) ?_); intro v6 w4 O1 B1 _ _; have HN4 := Aside0.mk O1; have HB4 := Aside0.mk B1; clear O1 B1 HO HB3))
      have HR2 := Aside0.mk (show RdAt w w4 b v6 ([] ++ [x]) (0 + m) from ⟨HN4.out, HB4.out, by
        rw [HR.out.says, ← HB2.out, HE.out, HB2.out, List.drop_drop]
        simp [Nat.add_assoc], by have := HR.out.few; rw [List.length_append, List.length_singleton]; omega⟩)
      go_step3
      refine And.intro rfl ?_
      exact ⟨[x], m, v6, undef, _, _, _, _, _, _, _, _, _, _, _, _, _, _, _, _, _, _, _, _, _, _, _, _, _, _, _, rfl, by have := HBL.out; omega, ⟨by have := HR2.out; simpa using this⟩⟩
    · have hz : (nextR b2).2.1 = 0 := by omega
      have HE := Aside0.mk (readR_stop hz)
      obtain ⟨x, hx⟩ : ∃ x, x = (nextR b2).1 := ⟨_, rfl⟩
      obtain ⟨e, he⟩ : ∃ e, e = (nextR b2).2.2 := ⟨_, rfl⟩
      have E0 := Aside0.mk (show nextR b2 = (x, 0, e) by rw [hx, he, ← hz])
      rw [← he] at HE
      have HS := Aside0.mk (show readR b = ([], 0 , e) by rw [HR.out.says, ← HB2.out, HE.out]; simp)
      clear hx he hn hz
      have q1 : decide ((0 : Int) < 0) = false := by decide
      by_cases q0 : e = 0
      · subst q0
        go_wp2_with (first
          | (go_at_call 68; go_must (refine (next_calls a2 c2 b2 _ (by exact Kd.C_below HC2.out HWB.out) k2 HBB.out).mono ?_; rw [E0.out]; rintro e w3 ⟨v, rfl, ho, hbb⟩; have hs := OwnB.slice ho; obtain ⟨A5, c5, hv, k5, _⟩ := hs; subst hv; have HB3 := Aside0.mk (below_step HWB.out hbb); have HN3 := Aside0.mk (Kd.N_below HR.out.row hbb); clear ho hbb)))
        rw [jump_ret]
        go_ret3
        exact ⟨(.slice none 0 0), by rw [HS.out]; first | done | simp, by rw [HS.out]; exact Kd.N_alloc HN3.out _, below_alloc HB3.out _⟩
      · have q3 : decide (e = 0) = false := decide_eq_false q0
        go_wp2_with (first
          | (go_at_call 68; go_must (refine (next_calls a2 c2 b2 _ (by exact Kd.C_below HC2.out HWB.out) k2 HBB.out).mono ?_; rw [E0.out]; rintro e w3 ⟨v, rfl, ho, hbb⟩; have hs := OwnB.slice ho; obtain ⟨A5, c5, hv, k5, _⟩ := hs; subst hv; have HB3 := Aside0.mk (below_step HWB.out hbb); have HN3 := Aside0.mk (Kd.N_below HR.out.row hbb); clear ho hbb)))
        rw [jump_ret]
        go_ret3
        exact ⟨(.slice none 0 0), by rw [HS.out]; first | done | simp, by rw [HS.out]; exact Kd.N_alloc HN3.out _, below_alloc HB3.out _⟩
  · rintro a W ⟨L, at_, v5, u1, u7, u8, u9, u10, u11, u12, u13, u14, u15, u16, u17, u18, u19, u20, u21, u22, u23, u24, u25, u26, u27, u28, u29, u30, u31, u32, u33, rfl, hat, HR⟩
    dsimp only
    have hc0 : at_ ≤ b.length := hat
    have ht := run_drop A b.length c (at_ : Int) (by omega) (by omega)
    obtain ⟨a2, ha2⟩ : ∃ a2, a2 = (if c = (at_ : Int).toNat then A else A.map (·.add ((at_ : Int).toNat * 1))) := ⟨_, rfl⟩
    obtain ⟨b2, hb2⟩ : ∃ b2, b2 = b.drop at_ := ⟨_, rfl⟩
    obtain ⟨c2, hc2⟩ : ∃ c2, c2 = c - at_ := ⟨_, rfl⟩
    have hbl : b2.length = b.length - at_ := by rw [hb2, List.length_drop]
    have hN : (at_ : Int).toNat = at_ := by omega
    rw [← ha2, hN, ← hbl, ← hc2] at ht
    have k2 : b2.length ≤ c2 := by omega
    have C2 : (Kd.int .u8).C w a2 b2.length b2 := by
      have := Kd.C_drop (m := at_) H.out hc0 hc
      rw [← hb2] at this
      rw [ha2, hN]
      exact this
    have HC2 := Aside0.mk C2
    have HBB := Aside0.mk (show ∀ x ∈ b2, 0 ≤ x ∧ x < 256 from fun x hx => hb x (List.mem_of_mem_drop (by rw [← hb2]; exact hx)))
    have HB2 := Aside0.mk hb2
    have HBL := Aside0.mk hbl
    have HWB := Aside0.mk HR.out.bel
    clear ha2 hb2 hc2 C2 hbl hN
    by_cases hn : 0 < (nextR b2).2.1
    · obtain ⟨e0, _⟩ := next_pos hn
      have hle := next_le hn
      have HE := Aside0.mk (readR_step hn)
      obtain ⟨x, hx⟩ : ∃ x, x = (nextR b2).1 := ⟨_, rfl⟩
      obtain ⟨m, hm⟩ : ∃ m, m = (nextR b2).2.1 := ⟨_, rfl⟩
      have E0 := Aside0.mk (show nextR b2 = (x, m, 0) by rw [hx, hm, e0])
      rw [← hm] at hn hle
      rw [← hx, ← hm] at HE
      clear hx hm e0
      have q1 : decide (0 < (m : Int)) = true := decide_eq_true (by omega)
      have q2 : 0 < m := hn
      have w1 : IntKind.i64.wrap ((at_ : Int) + (m : Int)) = (at_ : Int) + (m : Int) := IntWalk.i64_in _ ⟨by omega, by have := HBL.out; omega⟩
      have w2 : IntKind.i64.wrap (m : Int) = (m : Int) := IntWalk.i64_in _ ⟨by omega, by have := HBL.out; omega⟩
      go_wp2_with (first
        | (go_at_call 68; go_must (refine (next_calls a2 c2 b2 _ (by exact Kd.C_below HC2.out HWB.out) k2 HBB.out).mono ?_; rw [E0.out]; rintro e w3 ⟨v, rfl, ho, hbb⟩; have hs := OwnB.slice ho; obtain ⟨A5, c5, hv, k5, _⟩ := hs; subst hv; have HO := Aside0.mk ho; have HB3 := Aside0.mk hbb; clear ho hbb))
        | (at_builtin; go_must (refine app_rec w.heap.size rfl (.tmp 24) (.tmp 26) rfl v5 L x (.slice A5 x.2.length c5) (fun k => w.heap.size ≤ k) W.heap.size rfl (congrArg (fun g => Value.slice (some ⟨g, 0, none⟩) 1 1) (show w3.heap.size + 1 = (w3.alloc _).heap.size by simp)) (HO.out.below (below_alloc (Below.refl _ _) _)) (fun k hk => ⟨by have h1 := own_base HO.out k hk; have h2 := HWB.out.size; omega, fun e => by have h1 := own_base HO.out k hk; have h2 := Kd.N_lt HR.out.row k e.symm; omega⟩) (fun k hk => by have h1 := HWB.out.size; have h2 := HB3.out.size; simp at hk; omega) (Kd.N_below HR.out.row (below_alloc HB3.out _)) (below_alloc (below_step HWB.out HB3.out) _) (below_alloc (below_step HWB.out HB3.out) _).size (by have := HR.out.few; omega) ?_); intro v6 w4 O1 B1 _ _; have HN4 := Aside0.mk O1; have HB4 := Aside0.mk B1; clear O1 B1 HO HB3))
      have HR2 := Aside0.mk (show RdAt w w4 b v6 (L ++ [x]) (at_ + m) from ⟨HN4.out, HB4.out, by
        rw [HR.out.says, ← HB2.out, HE.out, HB2.out, List.drop_drop]
        simp [Nat.add_assoc], by have := HR.out.few; rw [List.length_append, List.length_singleton]; omega⟩)
      go_step3
      refine And.intro rfl ?_
      rw [show (at_ : Int) + (m : Int) = ((at_ + m : Nat) : Int) by simp]
      refine ⟨⟨L ++ [x], at_ + m, v6, u1, _, _, _, _, _, _, _, _, _, _, _, _, _, _, _, _, _, _, _, _, _, _, _, _, _, _, _, rfl, by have := HBL.out; omega, HR2⟩, ?_⟩
      have := HBL.out
      simp [intOf]
      omega
    · have hz : (nextR b2).2.1 = 0 := by omega
      have HE := Aside0.mk (readR_stop hz)
      obtain ⟨x, hx⟩ : ∃ x, x = (nextR b2).1 := ⟨_, rfl⟩
      obtain ⟨e, he⟩ : ∃ e, e = (nextR b2).2.2 := ⟨_, rfl⟩
      have E0 := Aside0.mk (show nextR b2 = (x, 0, e) by rw [hx, he, ← hz])
      rw [← he] at HE
      have HS := Aside0.mk (show readR b = (L, at_ , e) by rw [HR.out.says, ← HB2.out, HE.out]; simp)
      clear hx he hn hz
      have q1 : decide ((0 : Int) < 0) = false := by decide
      by_cases q0 : e = 0
      · subst q0
        go_wp2_with (first
          | (go_at_call 68; go_must (refine (next_calls a2 c2 b2 _ (by exact Kd.C_below HC2.out HWB.out) k2 HBB.out).mono ?_; rw [E0.out]; rintro e w3 ⟨v, rfl, ho, hbb⟩; have hs := OwnB.slice ho; obtain ⟨A5, c5, hv, k5, _⟩ := hs; subst hv; have HB3 := Aside0.mk (below_step HWB.out hbb); have HN3 := Aside0.mk (Kd.N_below HR.out.row hbb); clear ho hbb)))
        rw [jump_ret]
        go_ret3
        exact ⟨v5, by rw [HS.out]; first | done | simp, by rw [HS.out]; exact Kd.N_alloc HN3.out _, below_alloc HB3.out _⟩
      · have q3 : decide (e = 0) = false := decide_eq_false q0
        go_wp2_with (first
          | (go_at_call 68; go_must (refine (next_calls a2 c2 b2 _ (by exact Kd.C_below HC2.out HWB.out) k2 HBB.out).mono ?_; rw [E0.out]; rintro e w3 ⟨v, rfl, ho, hbb⟩; have hs := OwnB.slice ho; obtain ⟨A5, c5, hv, k5, _⟩ := hs; subst hv; have HB3 := Aside0.mk (below_step HWB.out hbb); have HN3 := Aside0.mk (Kd.N_below HR.out.row hbb); clear ho hbb)))
        rw [jump_ret]
        go_ret3
        exact ⟨v5, by rw [HS.out]; first | done | simp, by rw [HS.out]; exact Kd.N_alloc HN3.out _, below_alloc HB3.out _⟩
end Go.Proofs.Ytmbemlpmfklddaa.Own
