/- The walk of DiskGoes: bytes written in two goes are as in one. -/
import Derived.Test.YtmbemlpmfklddaaDiskAlive
import Derived.Deep.DeepMust
namespace Go.Proofs.Ytmbemlpmfklddaa.Own
open Go.RowKit Go.Proofs.YtmbemlpmfklddaaW.PrintWords Go.Proofs.YtmbemlpmfklddaaW.PrintLast Go.Proofs.YtmbemlpmfklddaaW.PrintMore
theorem All.perm {W : World} {Ps Qs : List Thing} (hp : Ps.Perm Qs) : ∀ {S : Nat → Prop}, All W Ps S → All W Qs S := by
  induction hp with
  | nil => exact id
  | cons x _ ih => rintro S ⟨S1, S2, h1, h2, h3, h4⟩; exact ⟨S1, S2, h1, ih h2, h3, h4⟩
  | swap x y l => exact All.swap
  | trans _ _ ih1 ih2 => exact fun h => ih2 (ih1 h)
theorem Here.perm {w W : World} {Ps Qs : List Thing} (h : Here w W Ps) (hp : Ps.Perm Qs) : Here w W Qs := by
  obtain ⟨S, h1, h2⟩ := h
  exact ⟨S, h1.perm hp, h2⟩
theorem perm_nth : ∀ (Ps : List Thing) (n : Nat) (hn : n < Ps.length), Ps.Perm (Ps[n] :: Ps.eraseIdx n)
  | P :: Ps, 0, _ => by simp
  | P :: Ps, n + 1, hn => by
    have := perm_nth Ps n (by simpa using hn)
    simp only [List.getElem_cons_succ, List.eraseIdx_cons_succ]
    exact (this.cons P).trans (List.Perm.swap _ _ _)
/-- The n-th thing is put first. -/
theorem Here.nth {w W : World} {Ps : List Thing} (h : Here w W Ps) (n : Nat) (hn : n < Ps.length) : Here w W (Ps[n] :: Ps.eraseIdx n) :=
  h.perm (perm_nth Ps n hn)
/-- The things up to the n-th go. -/
theorem Here.lose {w W : World} : ∀ {Ps : List Thing} (_ : Here w W Ps) (n : Nat), Here w W (Ps.drop n)
  | _, h, 0 => h
  | [], h, _ + 1 => h
  | _ :: _, h, n + 1 => h.drop.lose n
theorem splice_splice {B la lb : List Int} {p : Nat} (h : p + la.length + lb.length ≤ B.length) : splice (splice B p la) (p + la.length) lb = splice B p (la ++ lb) := by
  unfold splice
  have e1 : (B.take p ++ la ++ B.drop (p + la.length)).take (p + la.length) = B.take p ++ la := by
    rw [List.take_left' (by simp; omega)]
  have e2 : (B.take p ++ la ++ B.drop (p + la.length)).drop (p + la.length + lb.length) = B.drop (p + la.length + lb.length) := by
    rw [List.drop_append, List.drop_of_length_le (by simp; omega), List.nil_append, List.drop_drop]
    congr 1
    simp only [List.length_append, List.length_take]
    omega
  rw [e1, e2]
  simp [Nat.add_assoc]
theorem goes_pure {N : Dm} (nq : N.q = []) (n : Nat) (la lb : List Int) (hf : n + la.length + lb.length ≤ N.b.length) :
    ((N.write n la).write (n + la.length : Nat) lb).now = (N.write n (la ++ lb)).now := by
  simp only [Dm.now, Dm.write, nq, List.nil_append, List.foldl_append, List.foldl_cons, List.foldl_nil, Int.toNat_natCast]
  exact splice_splice hf
theorem flush_now (d : Dm) : d.flush.now = d.now := rfl
theorem flush_q (d : Dm) : d.flush.q = [] := rfl
set_option maxHeartbeats 4000000 in
set_option maxRecDepth 100000 in
theorem DiskGoes_calls (p : Int) (A0 A1 : Option Addr) (c0 c1 : Nat) (l0 l1 : List Int) (w : World)
    (h0 : (Kd.int .u8).C w A0 l0.length l0) (h1 : (Kd.int .u8).C w A1 l1.length l1) (_k0 : l0.length ≤ c0) (_k1 : l1.length ≤ c1) :
    Calls Try.prog 7 #[.int .i64 p, .slice A0 l0.length c0, .slice A1 l1.length c1] w fun e w' => e = .returned (.bool true) ∧ Below w.heap.size w w' := by
  have H0 := Aside0.mk h0
  have H1 := Aside0.mk h1
  have HH := Aside0.mk (Here.nil w)
  have m0 := h0.2.1
  have m1 := h1.2.1
  clear h0 h1
  by_cases hg : l0.length ≤ 200 ∧ l1.length ≤ 200 ∧ 0 ≤ p ∧ p ≤ 400
  · obtain ⟨hg0, hg1, hg2, hg3⟩ := hg
    have f0 : decide ((200 : Int) < (l0.length : Int)) = false := decide_eq_false (by omega)
    have f1 : decide ((200 : Int) < (l1.length : Int)) = false := decide_eq_false (by omega)
    have f2 : decide (p < 0) = false := decide_eq_false (by omega)
    have f3 : decide (400 < p) = false := decide_eq_false (by omega)
    obtain ⟨n, rfl⟩ : ∃ n : Nat, p = n := ⟨p.toNat, by omega⟩
    have fw : IntKind.i64.wrap ((n : Int) + (l0.length : Int)) = ((n + l0.length : Nat) : Int) := by
      have e : (n : Int) + (l0.length : Int) = ((n + l0.length : Nat) : Int) := by simp
      rw [e]
      exact IntWalk.i64_in _ ⟨by omega, by omega⟩
    obtain ⟨N, hN⟩ : ∃ N, N = Dm.new 400 := ⟨_, rfl⟩
    have nl : N.b.length = 400 := by rw [hN]; simp [Dm.new]
    have nq : N.q = [] := by rw [hN]; rfl
    have HN := Aside0.mk hN.symm
    clear hN
    have t1 : True := trivial
    have t2 : True := trivial
    have t3 : True := trivial
    have t4 : True := trivial
    have t5 : True := trivial
    have t6 : True := trivial
    have t7 : True := trivial
    have t8 : True := trivial
    have t9 : True := trivial
    by_cases hs : n + l0.length + l1.length ≤ 400
    · go_enter Try.func7, Try.ntmps7
      go_wp2_with (first
        | (go_at_call 20; have _t := t1; go_must (refine (New_here HH.out 400 (by decide) (by decide)).mono ?_; rintro e w1 ⟨gc, rfl, h⟩; rw [HN.out] at h; have HH1 := Aside0.mk h; clear HH h t1))
        | (go_at_call 20; have _t := t2; go_must (refine (New_here HH1.out 400 (by decide) (by decide)).mono ?_; rintro e w2 ⟨gd, rfl, h⟩; rw [HN.out] at h; have HH2 := Aside0.mk h; have HB2 := Aside0.mk (Below.refl w2.heap.size w2); clear HH1 h t2))
        | (at_builtin; have _t := t3; go_must (refine app_bytes w2.heap.size rfl (.tmp 79) (.tmp 80) rfl _ [] l0 A0 l0.length c0 rfl rfl rfl (own_empty _ _ (Nat.le_refl _)) (Kd.C_below H0.out (below_alloc HH2.out.below _)) (below_alloc HB2.out _) (below_alloc HB2.out _).size (by simp; omega) ?_); intro v1 w3 O1 B1' G1; clear G1 HB2 t3; have HO1 := Aside0.mk O1; have HB3 := Aside0.mk B1'; clear O1 B1')
        | (at_builtin; go_must (refine app_bytes w2.heap.size rfl (.tmp 81) (.tmp 82) rfl v1 ([] ++ l0) l1 A1 l1.length c1 rfl rfl rfl HO1.out (Kd.C_below H1.out (below_step HH2.out.below HB3.out)) HB3.out HB3.out.size (by simp; omega) ?_); intro v2 w4 O1 B1' G1; clear G1 HB3 HO1; obtain ⟨l2, hl2⟩ : ∃ l2, l2 = l0 ++ l1 := ⟨_, rfl⟩; rw [List.nil_append, ← hl2] at O1; have J2 := Aside0.mk (show l2.length = l0.length + l1.length by rw [hl2, List.length_append]); have L2 := Aside0.mk hl2; clear hl2; obtain ⟨A2, c2, rfl, k2, C2⟩ := OwnB.slice O1; have HH4 := Aside0.mk (HH2.out.addBytes B1' O1); have HC2 := Aside0.mk C2; clear O1 B1' HH2 C2)
        | (go_at_call 21; have _t := t4; go_must (refine (Write_here (d := N) (g := gc) (HH4.out.nth 2 (by simp)) (by rw [nq]; simp) n A2 c2 l2 HC2.out ⟨by omega, by omega, by have := J2.out; rw [nl]; omega⟩).mono ?_; rintro e w5 ⟨rfl, h⟩; have HH5 := Aside0.mk (Here.nth h 2 (by simp)); have HC0 := Aside0.mk (Kd.C_below H0.out h.below); clear HH4 h t4))
        | (go_at_call 21; have _t := t5; go_must (refine (Write_here (d := N) (g := gd) HH5.out (by rw [nq]; simp) n A0 c0 l0 HC0.out ⟨by omega, by omega, by rw [nl]; omega⟩).mono ?_; rintro e w6 ⟨rfl, h⟩; have HH6 := Aside0.mk h; have HC1 := Aside0.mk (Kd.C_below H1.out h.below); clear HH5 h t5))
        | (go_at_call 21; go_must (refine (Write_here (d := N.write n l0) (g := gd) (Ps := [DiskT gc (N.write n l2), BytesT (.slice A2 l2.length c2) l2]) HH6.out (by simp [nq, Dm.write]) (n + l0.length : Nat) A1 c1 l1 HC1.out ⟨by omega, by omega, by simp [nl, Dm.write]; omega⟩).mono ?_; rintro e w7 ⟨rfl, h⟩; obtain ⟨DC, hDC⟩ : ∃ DC, DC = N.write n l2 := ⟨_, rfl⟩; obtain ⟨DD, hDD⟩ : ∃ DD, DD = (N.write n l0).write (n + l0.length : Nat) l1 := ⟨_, rfl⟩; rw [← hDC, ← hDD] at h; obtain ⟨X, hX⟩ : ∃ X, X = DC.read 0 400 := ⟨_, rfl⟩; have hY : DD.now = DC.now := (by rw [hDD, hDC, L2.out]; exact goes_pure nq n l0 l1 (by rw [nl]; omega)); have x1 := Aside0.mk (show DC.read 0 400 = X from hX.symm); have x2 := Aside0.mk (show DD.read 0 400 = X by rw [hX]; unfold Dm.read; rw [hY]); have x3 := Aside0.mk (show DC.flush.read 0 400 = X by rw [hX]; rfl); have x4 := Aside0.mk (show DD.flush.read 0 400 = X by rw [hX]; unfold Dm.read; rw [flush_now, hY]); have qc : DC.q.length ≤ 1000000 := (by rw [hDC]; simp [Dm.write, nq]); have qd : DD.q.length ≤ 1000000 := (by rw [hDD]; simp [Dm.write, nq]); have bc : DC.b.length = 400 := (by rw [hDC]; exact nl); have bd : DD.b.length = 400 := (by rw [hDD]; exact nl); have oN : N.Ok := (by rw [← HN.out]; exact Dm.ok_new (by decide) (by decide)); have oc : DC.Ok := (by rw [hDC]; exact Dm.ok_write oN ⟨by omega, by omega, by have := J2.out; rw [nl]; omega⟩); have oD : DD.Ok := (by rw [hDD]; exact Dm.ok_write (Dm.ok_write oN ⟨by omega, by omega, by rw [nl]; omega⟩) ⟨by omega, by omega, by simp only [Dm.write, nl]; omega⟩); have fc : DC.flush.b.length = 400 := (by show DC.now.length = 400; rw [Dm.now_length oc, bc]); have fd : DD.flush.b.length = 400 := (by show DD.now.length = 400; rw [Dm.now_length oD, bd]); have HH7 := Aside0.mk h; clear HH6 h hX hY hDC hDD oc oD oN))
        | (go_at_call 24; have _t := t6; go_must (refine (Read_here (d := DC) (g := gc) HH7.out.swap qc 0 400 ⟨by omega, by omega, by rw [bc]; omega⟩).mono ?_; rw [x1.out]; rintro e w8 ⟨v, rfl, h⟩; obtain ⟨Ax, cx, rfl, kx, Cx⟩ := h.bytes.slice; clear Cx; have HH8 := Aside0.mk h; clear HH7 h t6))
        | (go_at_call 24; have _t := t7; go_must (refine (Read_here (d := DD) (g := gd) HH8.out.third qd 0 400 ⟨by omega, by omega, by rw [bd]; omega⟩).mono ?_; rw [x2.out]; rintro e w9 ⟨v, rfl, h⟩; obtain ⟨Ay, cy, rfl, ky, Cy⟩ := h.bytes.slice; clear Cy; have HH9 := Aside0.mk h; clear HH8 h t7))
        | (go_at_call 23; have _t := t8; go_must (refine (Flush_here (d := DC) (g := gc) (HH9.out.nth 3 (by simp)) qc).mono ?_; rintro e w10 ⟨rfl, h⟩; have HHa := Aside0.mk h; clear HH9 h t8))
        | (go_at_call 23; go_must (refine (Flush_here (d := DD) (g := gd) (Here.nth HHa.out 2 (by simp)) qd).mono ?_; rintro e w11 ⟨rfl, h⟩; have HHb := Aside0.mk (show Here w w11 [DiskT gd DD.flush, DiskT gc DC.flush, BytesT (.slice Ay X.length cy) X, BytesT (.slice Ax X.length cx) X, BytesT (.slice A2 l2.length c2) l2] from h); clear HHa h))
        | (go_at_call 24; have _t := t9; go_must (refine (Read_here (d := DC.flush) (g := gc) HHb.out.swap (by rw [flush_q]; simp) 0 400 ⟨by omega, by omega, by rw [fc]; omega⟩).mono ?_; rw [x3.out]; rintro e w12 ⟨v, rfl, h⟩; obtain ⟨Az, cz, rfl, kz, Cz⟩ := h.bytes.slice; clear Cz; have HHc := Aside0.mk h; clear HHb h t9))
        | (go_at_call 24; go_must (refine (Read_here (d := DD.flush) (g := gd) HHc.out.third (by rw [flush_q]; simp) 0 400 ⟨by omega, by omega, by rw [fd]; omega⟩).mono ?_; rw [x4.out]; rintro e w13 ⟨v, rfl, h⟩; obtain ⟨Av, cv, rfl, kv, Cv⟩ := h.bytes.slice; clear Cv; have HHd := Aside0.mk h; clear HHc h))
        | (go_at_call 25; go_must (refine (alive12 _).mono ?_; rintro e w14 ⟨rfl, hb⟩; have HHe := Aside0.mk (HHd.out.then_ hb); clear HHd hb; have s1 := Kd.C_string (P := Try.prog) (A := Ax) (c := cx) Try.underlying22 Try.underlying5 Try.underlying9 (by obtain ⟨A, c, e, _, h⟩ := (Here.nth HHe.out 5 (by simp)).bytes.slice; cases e; exact h); have s2 := Kd.C_string (P := Try.prog) (A := Ay) (c := cy) Try.underlying22 Try.underlying5 Try.underlying9 (by obtain ⟨A, c, e, _, h⟩ := (Here.nth HHe.out 4 (by simp)).bytes.slice; cases e; exact h); have s3 := Kd.C_string (P := Try.prog) (A := Az) (c := cz) Try.underlying22 Try.underlying5 Try.underlying9 (by obtain ⟨A, c, e, _, h⟩ := (Here.nth HHe.out 2 (by simp)).bytes.slice; cases e; exact h); have s4 := Kd.C_string (P := Try.prog) (A := Av) (c := cv) Try.underlying22 Try.underlying5 Try.underlying9 (by obtain ⟨A, c, e, _, h⟩ := (Here.nth HHe.out 0 (by simp)).bytes.slice; cases e; exact h))))
      go_ret
      exact ⟨rfl, HHe.out.below⟩
    · go_enter Try.func7, Try.ntmps7
      go_wp2_with (first
        | (go_at_call 20; have _t := t1; go_must (refine (New_here HH.out 400 (by decide) (by decide)).mono ?_; rintro e w1 ⟨gc, rfl, h⟩; rw [HN.out] at h; have HH1 := Aside0.mk h; clear HH h t1))
        | (go_at_call 20; have _t := t2; go_must (refine (New_here HH1.out 400 (by decide) (by decide)).mono ?_; rintro e w2 ⟨gd, rfl, h⟩; rw [HN.out] at h; have HH2 := Aside0.mk h; have HB2 := Aside0.mk (Below.refl w2.heap.size w2); clear HH1 h t2))
        | (at_builtin; have _t := t3; go_must (refine app_bytes w2.heap.size rfl (.tmp 79) (.tmp 80) rfl _ [] l0 A0 l0.length c0 rfl rfl rfl (own_empty _ _ (Nat.le_refl _)) (Kd.C_below H0.out (below_alloc HH2.out.below _)) (below_alloc HB2.out _) (below_alloc HB2.out _).size (by simp; omega) ?_); intro v1 w3 O1 B1' G1; clear G1 HB2 t3; have HO1 := Aside0.mk O1; have HB3 := Aside0.mk B1'; clear O1 B1')
        | (at_builtin; go_must (refine app_bytes w2.heap.size rfl (.tmp 81) (.tmp 82) rfl v1 ([] ++ l0) l1 A1 l1.length c1 rfl rfl rfl HO1.out (Kd.C_below H1.out (below_step HH2.out.below HB3.out)) HB3.out HB3.out.size (by simp; omega) ?_); intro v2 w4 O1 B1' G1; clear G1 HB3 HO1; obtain ⟨l2, hl2⟩ : ∃ l2, l2 = l0 ++ l1 := ⟨_, rfl⟩; rw [List.nil_append, ← hl2] at O1; have J2 := Aside0.mk (show l2.length = l0.length + l1.length by rw [hl2, List.length_append]); clear hl2; obtain ⟨A2, c2, rfl, k2, C2⟩ := OwnB.slice O1; have HH4 := Aside0.mk (HH2.out.addBytes B1' O1); clear O1 B1' HH2 C2)
        | (go_at_call 21; have _t := t4; go_must (refine (WriteNo_here (d := N) (g := gc) (HH4.out.nth 2 (by simp)) n A2 c2 l2.length (by have := J2.out; omega) (by have := J2.out; rintro ⟨_, _, h⟩; rw [nl] at h; omega)).mono ?_; rintro e w5 ⟨rfl, rfl⟩; clear t4))
        | (go_at_call 25; go_must (refine (alive12 _).mono ?_; rintro e w14 ⟨rfl, hb⟩; have HH5 := Aside0.mk (HH4.out.then_ hb); clear HH4 hb))
        | (go_at_call 26; go_must (refine (Waits_here (d := N) (g := gc) (Here.nth HH5.out 2 (by simp)) (by rw [nq]; simp)).mono ?_; rw [show N.waits = 0 by unfold Dm.waits; rw [nq]; rfl]; rintro e w15 ⟨rfl, h⟩; have HH6 := Aside0.mk h; clear HH5 h)))
      go_ret
      exact ⟨rfl, HH6.out.below⟩
  · go_enter Try.func7, Try.ntmps7
    have hq : ∀ (Q : Prop), (decide ((200 : Int) < (l0.length : Int)) = true → Q) → (decide ((200 : Int) < (l0.length : Int)) = false → decide ((200 : Int) < (l1.length : Int)) = true → Q) → (decide ((200 : Int) < (l0.length : Int)) = false → decide ((200 : Int) < (l1.length : Int)) = false → decide (p < 0) = true → Q) → (decide ((200 : Int) < (l0.length : Int)) = false → decide ((200 : Int) < (l1.length : Int)) = false → decide (p < 0) = false → decide (400 < p) = true → Q) → Q := by
      intro Q q1 q2 q3 q4
      by_cases h1 : 200 < l0.length
      · exact q1 (decide_eq_true (by omega))
      · by_cases h2 : 200 < l1.length
        · exact q2 (decide_eq_false (by omega)) (decide_eq_true (by omega))
        · by_cases h3 : p < 0
          · exact q3 (decide_eq_false (by omega)) (decide_eq_false (by omega)) (decide_eq_true (by omega))
          · exact q4 (decide_eq_false (by omega)) (decide_eq_false (by omega)) (decide_eq_false (by omega)) (decide_eq_true (by omega))
    clear hg
    refine hq _ (fun g0 => ?_) (fun g0 g1 => ?_) (fun g0 g1 g2 => ?_) (fun g0 g1 g2 g3 => ?_)
    all_goals clear hq
    all_goals have t1 : True := trivial
    all_goals go_wp2_with (first
        | (go_at_call 20; have _t := t1; go_must (refine (New_here HH.out 400 (by decide) (by decide)).mono ?_; rintro e w1 ⟨gc, rfl, h⟩; have HH1 := Aside0.mk h; clear HH h t1))
        | (go_at_call 20; go_must (refine (New_here HH1.out 400 (by decide) (by decide)).mono ?_; rintro e w2 ⟨gd, rfl, h⟩; have HH2 := Aside0.mk h; clear HH1 h))
        | (go_at_call 25; go_must (refine (alive12 _).mono ?_; rintro e w14 ⟨rfl, hb⟩; have HH5 := Aside0.mk (HH2.out.then_ hb); clear HH2 hb)))
    all_goals go_ret
    all_goals exact ⟨rfl, HH5.out.below⟩
end Go.Proofs.Ytmbemlpmfklddaa.Own
