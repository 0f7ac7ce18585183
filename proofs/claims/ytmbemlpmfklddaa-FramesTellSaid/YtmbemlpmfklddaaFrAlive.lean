/- alive of the frames' laws: it answers true. -/
import Derived.Test.YtmbemlpmfklddaaFrHere
import Derived.Lib.SlBytesConst
namespace Go.Proofs.Ytmbemlpmfklddaa.Own
open Go.RowKit Go.Proofs.YtmbemlpmfklddaaW.PrintWords Go.Proofs.YtmbemlpmfklddaaW.PrintLast Go.Proofs.YtmbemlpmfklddaaW.PrintMore
set_option maxHeartbeats 2000000 in
set_option maxRecDepth 100000 in
theorem alive13 (w : World) : Calls Try.prog 27 #[] w fun e w' => e = .returned (.bool true) ∧ Below w.heap.size w w' := by
  have hu49 := Try.underlying49
  have kc := fun (w : World) (C : Array Value) (n c : Nat) => Lib.run_convert_bytes_const (P := Try.prog) w 22 5 C n c Try.underlying22 Try.underlying5
  have HH := Aside0.mk (Here.nil w)
  obtain ⟨fa, hfa⟩ : ∃ fa, fa = frameR (3, [97, 98]) := ⟨_, rfl⟩
  have HFA := Aside0.mk hfa
  have fl := Aside0.mk (show fa.length = 11 by rw [hfa]; exact fa_first.2.2)
  have m2 : ((fa.length : Int) != 11) = false := by rw [fl.out]; rfl
  have m1 : fa.length ≤ 11 := Nat.le_of_eq fl.out
  have t2 : True := trivial
  have t3 : True := trivial
  have t4 : True := trivial
  have t5 : True := trivial
  have t6 : True := trivial
  have t7 : True := trivial
  have t8 : True := trivial
  have q1 : (4 : Int) < fa.length := by rw [fl.out]; omega
  have q5 : (10 : Int) < fa.length := by rw [fl.out]; omega
  have q2 : 4 < fa.length := by rw [fl.out]; omega
  have r2 := Aside0.mk (show readR (fa.set 4 120) = ([], 0, 9) by rw [hfa, readR_stop (by rw [fa_next]), fa_next])
  have r3 := Aside0.mk (show readR (fa.take 10) = ([], 0, 0) by rw [hfa, readR_stop (by rw [fa_cut]), fa_cut])
  have RA := Aside0.mk (show ∀ x ∈ fa, 0 ≤ x ∧ x < 256 by rw [hfa]; decide +kernel)
  have r1 := Aside0.mk (show readR (fa ++ [0, 0]) = ([(3, [97, 98])], 11, 0) by rw [hfa]; exact fa_read)
  have g0 := Aside0.mk (show fa.getD 0 0 = 90 by rw [hfa]; exact fa_first.1)
  have g10 := Aside0.mk (show fa.getD 10 0 = 165 by rw [hfa]; exact fa_first.2.1)
  clear hfa
  have t1 : True := trivial
  go_enter Try.func27, Try.ntmps27
  go_wp2_with (first
    | (go_at_call 28; have _t := t1; go_must (refine (WriteF_here (HH.out.alloc _) (3, [97, 98]) _ 2 (by exact C_lit [97, 98] (heap_at rfl) rfl (by simp)) (by simp) (by decide)).mono ?_; rw [← HFA.out]; rintro e w1 ⟨v, rfl, h⟩; obtain ⟨ga, ca, rfl, ka⟩ := h.row (by rw [fl.out]; omega); have hsl := run_take (some ⟨ga, 0, none⟩) fa.length ca 10 (by omega) (by have h9 := fl.out; omega) ka; have q3 : (10 : Int) ≤ ca := Int.le_trans (Int.le_of_lt (by have h9 := fl.out; omega : (10 : Int) < fa.length)) (Int.ofNat_le.2 ka); have HH1 := Aside0.mk h; have HB1 := Aside0.mk (Below.refl w1.heap.size w1); clear HH h t1))
    | (at_builtin; have _t := t2; go_must (refine app_bytes w1.heap.size rfl (.tmp 23) (.tmp 24) rfl _ [] fa (some ⟨ga, 0, none⟩) fa.length ca rfl rfl rfl (own_empty _ _ (Nat.le_refl _)) (by obtain ⟨A, c, e, _, h⟩ := (HH1.out.alloc _).bytes.slice; cases e; exact h) (below_alloc HB1.out _) (below_alloc HB1.out _).size (by simp; omega) ?_); intro v2 w2 O1 B1' G1; clear G1 HB1 t2; have HO2 := Aside0.mk O1; have HB2 := Aside0.mk B1'; clear O1 B1')
    | (at_builtin; have _t := t3; go_must (refine app_bytes w1.heap.size rfl (.tmp 25) (.tmp 26) rfl v2 ([] ++ fa) [0, 0] _ 2 2 rfl rfl rfl (HO2.out.below (below_alloc (Below.refl _ _) _)) (C_lit [0, 0] (heap_at rfl) rfl (by simp)) (below_alloc HB2.out _) (below_alloc HB2.out _).size (by simp; omega) ?_); intro v3 w3 O1 B1' G1; clear G1 HB2 t3; obtain ⟨fb, hfb⟩ : ∃ fb, fb = fa ++ [0, 0] := ⟨_, rfl⟩; rw [List.nil_append, ← hfb] at O1; have HFB := Aside0.mk hfb; clear hfb; obtain ⟨Ab, cb, rfl, kb, _⟩ := OwnB.slice O1; have HH3 := Aside0.mk (HH1.out.addBytes B1' O1); clear O1 B1' HH1 HO2)
    | (go_at_call 29; have _t := t4; go_must (refine (ReadF_here HH3.out Ab cb fb (by obtain ⟨A, c, e, _, h⟩ := HH3.out.bytes.slice; cases e; exact h) kb (by rw [HFB.out]; intro x hx; rcases List.mem_append.1 hx with hx | hx; exact RA.out x hx; simp at hx; omega) (by rw [HFB.out, List.length_append]; simp; omega)).mono ?_; rw [show readR fb = ([(3, [97, 98])], 11, 0) by rw [HFB.out]; exact r1.out]; rintro e w4 ⟨v4, rfl, h⟩; obtain ⟨A4, c4, rfl, k4, _⟩ := h.recs; have HH4 := Aside0.mk h; have HB4 := Aside0.mk (Below.refl w4.heap.size w4); clear HH3 h t4))
    | (at_builtin; have _t := t5; go_must (refine app_bytes w4.heap.size rfl (.tmp 32) (.tmp 33) rfl _ [] fa (some ⟨ga, 0, none⟩) fa.length ca rfl rfl rfl (own_empty _ _ (Nat.le_refl _)) (by obtain ⟨A, c, e, _, h⟩ := (Here.nth (HH4.out.alloc _) 2 (by simp)).bytes.slice; cases e; exact h) (below_alloc HB4.out _) (below_alloc HB4.out _).size (by simp; omega) ?_); intro v5 w5 O1 B1' G1; clear G1 HB4 t5; rw [List.nil_append] at O1; have HH5 := Aside0.mk (HH4.out.addBytes B1' O1); obtain ⟨gc, cc, rfl, kcc⟩ := HH5.out.row (by rw [fl.out]; omega); clear O1 B1' HH4; obtain ⟨hcc, hfc⟩ := HH5.out.byteAt 4 (by rw [fl.out]; omega); generalize fa.getD 4 0 = z at hcc)
    | (go_at_call 29; have _t := t6; go_must (refine (ReadF_n (HH5.out.put 4 120) (some ⟨gc, 0, none⟩) fa.length cc (fa.set 4 120) List.length_set.symm (by obtain ⟨A, c, e, _, h⟩ := (HH5.out.put 4 120).bytes.slice; injection e with e1 e2 e3; rw [e1]; exact h) (by rw [List.length_set]; exact kcc) (by intro x hx; rcases List.mem_or_eq_of_mem_set hx with hx | hx; exact RA.out x hx; omega) (by rw [List.length_set, fl.out]; omega)).mono ?_; rw [r2.out]; rintro e w6 ⟨v6, rfl, h⟩; have HH6 := Aside0.mk h; clear HH5 h t6 hcc hfc))
    | (go_at_call 29; have _t := t7; go_must (refine (ReadF_n HH6.out (some ⟨ga, 0, none⟩) 10 ca (fa.take 10) (by rw [List.length_take, fl.out]; rfl) (by obtain ⟨A, c, e, _, h⟩ := (Here.nth HH6.out 4 (by simp)).bytes.slice; injection e with e1 e2 e3; rw [e1]; exact Kd.C_take h (by rw [fl.out]; omega)) (by rw [List.length_take]; exact Nat.le_trans (Nat.min_le_right _ _) ka) (fun x hx => RA.out x (List.mem_of_mem_take hx)) (by rw [List.length_take, fl.out]; omega)).mono ?_; rw [r3.out]; rintro e w7 ⟨v7, rfl, h⟩; obtain ⟨A7, c7, rfl, k7, _⟩ := h.recs; have HH7 := Aside0.mk h; clear HH6 h t7 hsl))
    | (go_at_call 28; have _t := t8; go_must (refine (Write_bad ((0, []) : Rec) none 0 _ (C_bytes_nil _) (by simp) (by decide)).mono ?_; rintro e w8 ⟨rfl, hb⟩; have HH8 := Aside0.mk (HH7.out.then_ hb); have y0 := ((Here.nth HH8.out 5 (by simp)).byteAt 0 (by exact Nat.lt_trans (by decide) q2)).1; have y10 := ((Here.nth HH8.out 5 (by simp)).byteAt 10 (by have h9 := fl.out; omega)).1; rw [g0.out] at y0; rw [g10.out] at y10; obtain ⟨A4', c4', e4, _, C4⟩ := (Here.nth HH8.out 3 (by simp)).recs; injection e4 with e41 e42 e43; rw [← e41] at C4; obtain ⟨ad, A3, c3, e3, x0, x1, kc3, C3⟩ := atR C4 0 (by simp) rfl; subst e3; replace x0 : w8.cell? ad = some (.int .i64 3) := x0; replace x1 : w8.cell? ⟨ad.block, ad.off + 1, none⟩ = some (.slice A3 2 c3) := x1; have hstr : Sem.run Try.prog (convert 22 9 (.slice A3 2 c3)) w8 = .ok (.string { data := #[97, 98] }) w8 := Kd.C_string (P := Try.prog) (A := A3) (c := c3) Try.underlying22 Try.underlying5 Try.underlying9 C3; clear e41 e42 e43 C4 C3 HH7 hb t8)))
  go_ret
  exact ⟨rfl, HH8.out.below⟩
end Go.Proofs.Ytmbemlpmfklddaa.Own
