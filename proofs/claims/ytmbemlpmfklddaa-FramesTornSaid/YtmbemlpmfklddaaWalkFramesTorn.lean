/- FramesTorn answers true. -/
import Derived.Test.YtmbemlpmfklddaaRawT
import Derived.Deep.RegionHeld3
namespace Go.Proofs.Ytmbemlpmfklddaa.Own
open Go.RowKit Go.Proofs.YtmbemlpmfklddaaW.PrintWords Go.Proofs.YtmbemlpmfklddaaW.PrintLast Go.Proofs.YtmbemlpmfklddaaW.PrintMore
set_option maxHeartbeats 8000000 in
set_option maxRecDepth 100000 in
theorem FramesTorn_calls (A0 : Option Addr) (c0 : Nat) (l0 : List Rec) (a1 a2 : Int) (w : World)
    (h0 : Kd.C kR w A0 l0.length l0) (q0 : ∀ r ∈ l0, QR r) (b1 : -9223372036854775808 ≤ a1) (b2 : a1 ≤ 9223372036854775807) (b3 : (Lit.int .u8 a2).wf = true) :
    Calls Try.prog 8 #[.slice A0 l0.length c0, .int .i64 a1, .int .u8 a2] w fun e w' => e = .returned (.bool true) ∧ Below w.heap.size w w' := by
  have hu49 := Try.underlying49
  have H0 := Aside0.mk h0
  have HQ := Aside0.mk q0
  have m0 := h0.2.1
  have HH := Aside0.mk (Here.nil w)
  clear h0 q0
  go_enter Try.func8, Try.ntmps8
  go_wp2_with fail
  go_loopw [7, 8, 9, 10] (fun v7 v8 v9 v10 wr => ∃ (k : Nat) (L : List Rec) (rows : List (List Value)) (A8 A9 : Option Addr) (c8 c9 : Nat), v8 = .slice A8 L.length c8 ∧ v9 = .slice A9 L.length c9 ∧ k ≤ l0.length ∧ k ≤ 12 ∧ L.length ≤ k ∧ v10 = .int .i64 k ∧ Aside0 (L = oks l0 k) ∧ Aside0 (Told w rows L) ∧ Aside0 (∀ r ∈ L, r.2.length ≤ 500) ∧
      Aside0 (Here w wr [BytesT v7 (framesOf L), RawT 1 3 v8 (endsOf L), RawT 2 49 v9 rows])) (fun _ _ _ v10 _ => 12 - (intOf v10).toNat)
  case atStart => exact ⟨0, [], [], none, none, 0, 0, rfl, rfl, by omega, by omega, by simp, rfl, ⟨by simp [oks]⟩, ⟨Told.nil w⟩, ⟨by simp⟩, ⟨((HH.out.addRaw 2 49).addRaw 1 3).addNil⟩⟩
  case round =>
    obtain ⟨k, L, rows, A8, A9, c8, c9, rfl, rfl, hk1, hk2, hLk, rfl, HLE, HT, HL, HI⟩ := hrel
    have HF := Aside0.mk (show (framesOf L).length ≤ 6200 by have h9 := framesOf_len _ HL.out; omega)
    by_cases hlt : k < l0.length ∧ k < 12
    · obtain ⟨hlt1, hlt2⟩ := hlt
      have q1 : decide ((k : Int) < (l0.length : Int)) = true := decide_eq_true (by omega)
      have q2 : decide ((k : Int) < 12) = true := decide_eq_true (by omega)
      obtain ⟨ad, A3, c3, rfl, e0, e1, k3, C3⟩ := atR H0.out k hlt1 rfl
      have m3 := C3.2.1
      have HC3 := Aside0.mk C3
      have u1 : IntKind.i64.wrap ((k : Int) + 1) = (k : Int) + 1 := IntWalk.i64_in _ ⟨by omega, by omega⟩
      clear C3
      obtain ⟨r, hr⟩ : ∃ r, r = l0[k] := ⟨_, rfl⟩
      rw [← hr] at e0 e1 k3 HC3 m3
      have HRr := Aside0.mk hr
      clear hr
      obtain ⟨rk, rb⟩ := r
      simp only at e0 e1 k3 HC3 m3
      have HS := Aside0.mk (And.intro e0 e1)
      replace e0 := pw_cell_below HI.out.below e0
      replace e1 := pw_cell_below HI.out.below e1
      by_cases g5 : rb.length ≤ 500
      · have p5 : decide ((500 : Int) < (rb.length : Int)) = false := decide_eq_false (by omega)
        by_cases gok : okR (rk, rb)
        · obtain ⟨fb, hfb⟩ : ∃ fb, fb = framesOf L ++ frameR (rk, rb) := ⟨_, rfl⟩
          have HFB := Aside0.mk hfb
          clear hfb
          have t1 : True := trivial
          have t2 : True := trivial
          go_wp2_with (first
            | (go_at_call 28; go_must (refine (WriteF_here HI.out (rk, rb) A3 c3 (by exact Kd.C_below HC3.out HI.out.below) k3 gok).mono ?_; rintro e w1 ⟨v, rfl, h⟩; obtain ⟨Ab, cb, rfl, kb, _⟩ := h.bytes.slice; have HJ := Aside0.mk h; clear HI h))
            | (at_builtin; go_must (refine app_here HJ.out.swap rfl (.tmp 49) (.tmp 50) rfl (frameR (rk, rb)) Ab (frameR (rk, rb)).length cb rfl rfl rfl (by obtain ⟨A, c, e, _, h⟩ := HJ.out.bytes.slice; cases e; exact h) (by rw [frameR_len]; have h9 := HF.out; simp only; omega) ?_); intro v1 w2 h; rw [← HFB.out] at h; obtain ⟨Aw, cw, rfl, kw, _⟩ := h.bytes.slice; have HK := Aside0.mk h.swap.drop; clear HJ h e0 e1))
          have HK8 := Aside0.mk HK.out.swap.rawLt
          have HK9 := Aside0.mk HK.out.third.rawLt
          have hel := Aside0.mk (endsOf_len L)
          have hrl := Aside0.mk HT.out.1
          go_region_held3 (fun w' => w'.cell? (ad.add (k * 2)) = some (.int .i64 rk) ∧ w'.cell? ⟨(ad.add (k * 2)).block, (ad.add (k * 2)).off + 1, none⟩ = some (.slice A3 rb.length c3))
            (first
              | (focus (refine cells_keep2 HS.out ?_; (repeat (first | exact HE.out.below | with_reducible refine below_alloc ?_ _ | with_reducible refine Below.drew ?_)); done))
              | (focus (refine cells_keep2 HS.out ?_; (repeat (first | exact HA.out.below | with_reducible refine below_alloc ?_ _ | with_reducible refine Below.drew ?_)); done))
              | (focus (refine cells_keep2 HS.out ?_; (repeat (first | exact HB.out.below | with_reducible refine below_alloc ?_ _ | with_reducible refine Below.drew ?_)); done))
              | (focus (refine cells_keep2 HS.out ?_; (repeat (first | exact HK.out.below | with_reducible refine below_alloc ?_ _ | with_reducible refine Below.drew ?_)); done)))
            (first
              | (have _t := t1; refine ends_app (w := w) (v := .slice A8 L.length c8) (Ps := [BytesT (.slice Aw fb.length cw) fb, RawT 2 49 (.slice A9 L.length c9) rows]) (rows := endsOf L) ?hH rfl (.tmp 52) (.tmp 55) rfl (fb.length : Int) _ rfl rfl ?hR (by rw [hel.out]; omega) ?_; (case hH => (focus (refine Here.swap ?_; (repeat (first | exact HK.out | with_reducible refine Here.alloc ?_ _ | with_reducible refine Here.drew ?_)); done))); (case hR => (focus ((repeat (first | (refine heap_at ?_; first | rfl | (simp; done)) | with_reducible refine blk_alloc ?_ _ | with_reducible refine blk_drew ?_ | with_reducible refine blk_grown ?_ HG.out (fresh_ne HK8.out (by omega)))); done))); intro v2 w3 h hg; have HA := Aside0.mk h.swap; have HG := Aside0.mk hg; clear h hg t1)
              | (have _t := t2; refine told_app (w := w) (v := .slice A9 L.length c9) (Ps := [BytesT (.slice Aw fb.length cw) fb, RawT 1 3 v2 (endsOf L ++ [[.int .i64 (fb.length : Int)]])]) (rows := rows) ?hH rfl (.tmp 57) (.tmp 62) rfl rk A3 rb.length c3 _ rfl rfl ?hR (by rw [hrl.out]; omega) ?_; (case hH => (focus (refine Here.third ?_; (repeat (first | exact HA.out | with_reducible refine Here.alloc ?_ _ | with_reducible refine Here.drew ?_)); done))); (case hR => (focus ((repeat (first | (refine heap_at ?_; first | rfl | (simp; done)) | with_reducible refine blk_alloc ?_ _ | with_reducible refine blk_drew ?_ | with_reducible refine blk_grown ?_ HG.out (fresh_ne HK8.out (by omega)))); done))); intro v3 w4 h hg; have HE := Aside0.mk h.third.third; clear h hg t2))
          all_goals
            go_wp2_with fail
            go_roundw
            case rel =>
              have e := oks_yes hlt1 (by rw [← HRr.out]; exact gok)
              rw [← HRr.out, ← HLE.out] at e
              have ef : framesOf (L ++ [(rk, rb)]) = fb := by rw [framesOf_append, framesOf_one, HFB.out]
              obtain ⟨A8', c8', e8, _, _⟩ := HE.out.swap.raw
              obtain ⟨A9', c9', e9, _, _⟩ := HE.out.third.raw
              rw [List.length_append, hel.out] at e8
              rw [List.length_append, hrl.out] at e9
              refine ⟨k + 1, L ++ [(rk, rb)], rows ++ [[.int .i64 rk, .slice A3 rb.length c3]], A8', A9', c8', c9', by rw [e8, List.length_append]; rfl, by rw [e9, List.length_append]; rfl, by omega, by omega, by rw [List.length_append]; simp; omega, by go_num, ⟨e.symm⟩, ⟨HT.out.snoc (r := (rk, rb)) k3 HC3.out⟩, ⟨?_⟩, ⟨?_⟩⟩
              · intro r hr
                rcases List.mem_append.1 hr with hr | hr
                · exact HL.out r hr
                · rw [List.mem_singleton.1 hr]; exact g5
              · rw [endsOf_snoc, ef]
                exact HE.out
            case measure => simp [intOf]; omega
        · go_wp2_with (first
            | (go_at_call 28; go_must (refine (Write_bad (rk, rb) A3 c3 _ (by exact Kd.C_below HC3.out HI.out.below) k3 gok).mono ?_; rintro e w1 ⟨rfl, h⟩; have HJ := Aside0.mk (HI.out.then_ h); clear HI h)))
          go_roundw
          case rel =>
            have e := oks_no hlt1 (by rw [← HRr.out]; exact gok)
            exact ⟨k + 1, L, rows, A8, A9, c8, c9, rfl, rfl, by omega, by omega, by omega, by go_num, ⟨by rw [e]; exact HLE.out⟩, HT, HL, HJ⟩
          case measure => simp [intOf]; omega
      · have p5 : decide ((500 : Int) < (rb.length : Int)) = true := decide_eq_true (by omega)
        go_wp2_with (go_at_call 27; go_must (refine (alive13 _).mono ?_; rintro e w1 ⟨rfl, h⟩; have HB := Aside0.mk (HI.out.then_ h); clear HI h))
        go_ret
        exact ⟨rfl, HB.out.below⟩
    · --EXIT
      obtain ⟨bh, hbh⟩ := Int.eq_ofNat_of_zero_le (show 0 ≤ a2 by simp [Lit.wf, IntKind.min, IntKind.max, IntKind.signed, IntKind.bits] at b3; omega)
      have hbl : bh < 256 := by simp [Lit.wf, IntKind.min, IntKind.max, IntKind.signed, IntKind.bits] at b3; omega
      subst hbh
      clear b3
      have HLo := Aside0.mk (show ∀ r ∈ L, okR r by rw [HLE.out]; exact oks_ok)
      have HLr := Aside0.mk (show ∀ r ∈ L, ∀ x ∈ r.2, 0 ≤ x ∧ x < 256 by rw [HLE.out]; exact fun r hr => (HQ.out r (oks_mem r hr)).2)
      obtain ⟨fl, hfl⟩ : ∃ fl, fl = framesOf L := ⟨_, rfl⟩
      rw [← hfl] at HI HF
      have HFL := Aside0.mk hfl
      clear hfl
      have hel := Aside0.mk (endsOf_len L)
      have hrl := Aside0.mk HT.out.1
      obtain ⟨A7, c7, rfl, k7, _⟩ := HI.out.bytes.slice
      obtain ⟨N, hN⟩ : ∃ N, N = fl.length := ⟨_, rfl⟩
      have HN := Aside0.mk hN
      rw [← hN] at HI HF k7 ⊢
      have hF := HF.out
      clear hN
      have hcs : (decide ((k : Int) < (l0.length : Int)) = false ∧ ¬ k < l0.length) ∨ (decide ((k : Int) < (l0.length : Int)) = true ∧ decide ((k : Int) < 12) = false ∧ ¬ k < 12 ∧ k < l0.length) := by
        by_cases hk : k < l0.length
        · exact .inr ⟨decide_eq_true (by omega), decide_eq_false (by omega), by omega, hk⟩
        · exact .inl ⟨decide_eq_false (by omega), hk⟩
      clear hlt
      have u0 : IntKind.i64.wrap (bh : Int) = bh := IntWalk.i64_in _ ⟨by omega, by omega⟩
      have t1 : True := trivial
      have t2 : True := trivial
      have hma : a1 < 0 ∨ (0 ≤ a1 ∧ (N : Int) < a1) ∨ ∃ m : Nat, a1 = m ∧ m ≤ N := by
        by_cases h1 : a1 < 0
        · exact .inl h1
        · by_cases h2 : (N : Int) < a1
          · exact .inr (.inl ⟨by omega, h2⟩)
          · exact .inr (.inr ⟨a1.toNat, by omega, by omega⟩)
      rcases hma with ha | ⟨ha, hb⟩ | ⟨m, rfl, hb⟩
      case' inl =>
        obtain ⟨m, hm⟩ : ∃ m, m = N := ⟨_, rfl⟩
        subst hm
        obtain ⟨z, hz⟩ : ∃ z, z = bh := ⟨_, rfl⟩
        subst hz
        have p1 : decide (a1 < 0) = true := decide_eq_true ha
        have hsl := run_take A7 m c7 (m : Int) (by omega) (by omega) k7
        have HM := Aside0.mk (show m ≤ fl.length by rw [← HN.out]; exact Nat.le_refl _)
        have hz2 : z ≤ 6500 := by omega
      case' inr.inl =>
        obtain ⟨m, hm⟩ : ∃ m, m = N := ⟨_, rfl⟩
        subst hm
        obtain ⟨z, hz⟩ : ∃ z, z = bh := ⟨_, rfl⟩
        subst hz
        have p1 : decide (a1 < 0) = false := decide_eq_false (by omega)
        have p2 : decide ((m : Int) < a1) = true := decide_eq_true hb
        have hsl := run_take A7 m c7 (m : Int) (by omega) (by omega) k7
        have HM := Aside0.mk (show m ≤ fl.length by rw [← HN.out]; exact Nat.le_refl _)
        have hz2 : z ≤ 6500 := by omega
      case' inr.inr =>
        have p1 : decide ((m : Int) < 0) = false := decide_eq_false (by omega)
        have p2 : decide ((N : Int) < (m : Int)) = false := decide_eq_false (by omega)
        have p3 : ¬ N < m := by omega
        have hsl := run_take A7 N c7 (m : Int) (by omega) (by omega) k7
        have HM := Aside0.mk (show m ≤ fl.length by rw [← HN.out]; exact hb)
        obtain ⟨d, hd⟩ : ∃ d, d = N - m := ⟨_, rfl⟩
        obtain ⟨z, hz⟩ : ∃ z, z = d + bh := ⟨_, rfl⟩
        have w1 : IntKind.i64.wrap ((N : Int) - (m : Int)) = (d : Int) := by
          rw [hd, show ((N : Int) - (m : Int)) = ((N - m : Nat) : Int) by omega]
          exact IntWalk.i64_in _ ⟨by omega, by omega⟩
        have w2 : IntKind.i64.wrap ((d : Int) + (bh : Int)) = (z : Int) := by
          rw [hz, show ((d : Int) + (bh : Int)) = ((d + bh : Nat) : Int) by omega]
          exact IntWalk.i64_in _ ⟨by omega, by omega⟩
        have hz2 : z ≤ 6500 := by omega
        clear hd hz
      all_goals
        obtain ⟨ft, hft⟩ : ∃ ft, ft = fl.take m := ⟨_, rfl⟩
        obtain ⟨j, hj, hj1, hj2, hj3⟩ := read_torn L HLo.out m z (by rw [← HFL.out]; exact HM.out)
        rw [← HFL.out, ← hft] at hj3
        have HFT := Aside0.mk hft
        have HFTl := Aside0.mk (show ft.length = m by rw [hft, List.length_take]; have h9 := HM.out; omega)
        clear hft
        obtain ⟨tb, htb⟩ : ∃ tb, tb = ft ++ List.replicate z 0 := ⟨_, rfl⟩
        obtain ⟨Lj, hLj⟩ : ∃ Lj, Lj = L.take j := ⟨_, rfl⟩
        obtain ⟨tl, htl⟩ : ∃ tl, tl = (framesOf (L.take j)).length := ⟨_, rfl⟩
        rw [← htb, ← htl, ← hLj] at hj3
        have HRD := Aside0.mk hj3
        have HTB := Aside0.mk htb
        have HTL := Aside0.mk htl
        have HLJ := Aside0.mk hLj
        have HLJl := Aside0.mk (show Lj.length = j by rw [hLj, List.length_take]; omega)
        have HJ1 := Aside0.mk hj1
        have HJ2 := Aside0.mk hj2
        have HR2 := Aside0.mk (show ∀ x ∈ tb, 0 ≤ x ∧ x < 256 by
          intro x hx
          rw [htb] at hx
          rcases List.mem_append.1 hx with hx | hx
          · rw [HFT.out, HFL.out] at hx
            exact framesOf_range HLr.out x (List.mem_of_mem_take hx)
          · rw [List.eq_of_mem_replicate hx]; omega)
        have HTBl := Aside0.mk (show tb.length ≤ 13000 by rw [htb, List.length_append, List.length_replicate, HFTl.out]; have h9 := HM.out; omega)
        clear hj1 hj2 hj3 htb hLj htl
        rcases hcs with ⟨q1, q3⟩ | ⟨q1, q2, q3, q4⟩
      all_goals
        go_wp2_with (first
          | (at_builtin; have _t := t1; go_must (refine app_here HI.out.addEmpty rfl (.tmp 74) (.tmp 77) rfl ft A7 m c7 rfl rfl HFTl.out.symm (by rw [HFT.out]; exact Kd.C_take (bytes_of (Here.nth HI.out.addEmpty 1 (by simp))) HM.out) (by rw [HFTl.out]; simp; have h9 := HM.out; omega) ?_); intro v1 w1 h; rw [List.nil_append] at h; have HJ := Aside0.mk h; clear HI h t1)
          | (at_builtin; have _t := t2; go_must (refine app0_here HJ.out rfl (.tmp 78) (.tmp 85) rfl z rfl rfl (by rw [HFTl.out]; have h9 := HM.out; omega) ?_); intro v2 w3 h; rw [← HTB.out] at h; obtain ⟨A6, c6, rfl, k6, _⟩ := h.bytes.slice; have HK := Aside0.mk h; clear HJ h t2))
        have HK2 := Aside0.mk HK.out.swap.drop
        clear HK
        go_loopw [14, 15, 16] (fun v14 v15 v16 wr => ∃ (i x : Nat), i ≤ L.length ∧ x ≤ i ∧ v14 = .int .i64 x ∧ v15 = .int .i64 (framesOf (L.take x)).length ∧ v16 = .int .i64 i ∧ Aside0 (x = min i j) ∧ Aside0 (Here w wr [BytesT (.slice A6 tb.length c6) tb, RawT 1 3 (.slice A8 L.length c8) (endsOf L), RawT 2 49 (.slice A9 L.length c9) rows])) (fun _ _ v16 _ => L.length - (intOf v16).toNat)
        case atStart => exact ⟨0, 0, by omega, by omega, rfl, by simp [framesOf], rfl, ⟨by omega⟩, HK2⟩
        case round =>
          obtain ⟨i, x, hi, hxi, rfl, rfl, rfl, HX, HK⟩ := hrel
          clear HK2
          by_cases hil : i < L.length
          · have r1 : decide ((i : Int) < (L.length : Int)) = true := decide_eq_true (by omega)
            obtain ⟨ae, rfl, f0⟩ := atRaw1 (raw_of HK.out.swap) (endsOf_get hil)
            obtain ⟨ei, hei⟩ : ∃ ei, ei = (framesOf (L.take (i + 1))).length := ⟨_, rfl⟩
            rw [← hei] at f0
            have r2 : IntKind.i64.wrap ((i : Int) + 1) = (i : Int) + 1 := IntWalk.i64_in _ ⟨by omega, by omega⟩
            by_cases hle : i < j
            · have hem : ei ≤ m := by have h1 := HJ1.out; have h2 := framesOf_take_mono L (show i + 1 ≤ j from hle); omega
              have r3 : decide ((ei : Int) ≤ (m : Int)) = true := decide_eq_true (by omega)
              have HEI := Aside0.mk hei
              clear hei
              go_wp2_with fail
              go_region
              all_goals
                go_wp2_with fail
                go_roundw
                case rel => exact ⟨i + 1, i + 1, by omega, by omega, by go_num, by rw [← HEI.out], by go_num, ⟨by omega⟩, ⟨HK.out.drew⟩⟩
                case measure => simp [intOf]; omega
            · have hem : ¬ ei ≤ m := by have h1 := HJ2.out (by omega); have h2 := framesOf_take_mono L (show j + 1 ≤ i + 1 by omega); omega
              have r3 : decide ((ei : Int) ≤ (m : Int)) = false := decide_eq_false (by omega)
              have hxx : x = min (i + 1) j := by have h1 := HX.out; omega
              have HXX := Aside0.mk hxx
              clear hei hxx
              go_wp2_with fail
              go_roundw
              case rel => exact ⟨i + 1, x, by omega, by omega, rfl, rfl, by go_num, HXX, HK⟩
              case measure => simp [intOf]; omega
          · have r1 : decide ((i : Int) < (L.length : Int)) = false := decide_eq_false (by omega)
            obtain rfl : x = j := by have h1 := HX.out; omega
            rw [← HTL.out]
            have t3 : True := trivial
            go_wp2_with (first
              | (go_at_call 29; have _t := t3; go_must (refine (ReadF_here HK.out A6 c6 tb (bytes_of HK.out) k6 HR2.out (by have h9 := HTBl.out; omega)).mono ?_; rw [HRD.out]; rintro e w4 ⟨v4, rfl, h⟩; obtain ⟨A17, c17, hv, k17, _⟩ := h.recs; rw [HLJl.out] at hv k17; subst hv; have HM2 := Aside0.mk h; clear HK h t3)))
            obtain ⟨Ps, HP⟩ : ∃ Ps, Aside0 (Here w w4 (RecsT (.slice A17 x c17) Lj :: RawT 2 49 (.slice A9 L.length c9) rows :: Ps)) := ⟨_, ⟨(Here.nth HM2.out 3 (by simp)).swap⟩⟩
            clear HM2
            go_loopw [20] (fun v20 wr => ∃ (i : Nat), i ≤ x ∧ v20 = .int .i64 i ∧ Aside0 (Here w wr (RecsT (.slice A17 x c17) Lj :: RawT 2 49 (.slice A9 L.length c9) rows :: Ps))) (fun v20 _ => x - (intOf v20).toNat)
            case atStart => exact ⟨0, by omega, rfl, HP⟩
            case round =>
              obtain ⟨i, hi2, rfl, HM2⟩ := hrel
              clear HP
              by_cases hix : i < x
              · have y1 : decide ((i : Int) < (x : Int)) = true := decide_eq_true (by omega)
                have y2 : IntKind.i64.wrap ((i : Int) + 1) = (i : Int) + 1 := IntWalk.i64_in _ ⟨by omega, by omega⟩
                have hiL : i < L.length := by omega
                have hij : i < Lj.length := by rw [HLJl.out]; exact hix
                obtain ⟨ag, A3, c3, rfl, e0, e1, k3, C3⟩ := atR (recs_of HM2.out) i hij rfl
                obtain ⟨A4, c4, hrow, k4, C4⟩ := HT.out.2 i L[i] (List.getElem?_eq_getElem hiL)
                have heq : Lj[i] = L[i] := by
                  have e : Lj[i]? = L[i]? := by rw [HLJ.out, List.getElem?_take_of_lt hix]
                  rw [List.getElem?_eq_getElem hij, List.getElem?_eq_getElem hiL] at e
                  exact Option.some.inj e
                rw [heq] at e0 e1 k3 C3
                obtain ⟨ah, rfl, f0, f1⟩ := atRaw2 (raw_of HM2.out.swap) hrow
                generalize L[i] = r at e0 e1 k3 C3 f0 f1 k4 C4
                clear heq hrow
                obtain ⟨rk, rb⟩ := r
                simp only at e0 e1 k3 C3 f0 f1 k4 C4
                have s1 := Kd.C_string (P := Try.prog) (A := A3) (c := c3) (w := wr.drew) Try.underlying22 Try.underlying5 Try.underlying9 (Kd.C_below C3 (Below.refl wr.heap.size wr).drew)
                have s2 := Kd.C_string (P := Try.prog) (A := A4) (c := c4) (w := wr.drew) Try.underlying22 Try.underlying5 Try.underlying9 (Kd.C_below C4 HM2.out.below.drew)
                clear C3 C4
                go_wp2_with fail
                go_region
                all_goals
                  go_wp2_with fail
                  go_roundw
                  case rel => exact ⟨i + 1, by omega, by go_num, ⟨HM2.out.drew⟩⟩
                  case measure => simp [intOf]; omega
              · have y1 : decide ((i : Int) < (x : Int)) = false := decide_eq_false (by omega)
                have y3 : ¬ i < x := hix
                go_wp2_with (go_at_call 27; go_must (refine (alive13 _).mono ?_; rintro e w5 ⟨rfl, h⟩; have HB := Aside0.mk (HM2.out.then_ h); clear HM2 h))
                go_ret
                exact ⟨rfl, HB.out.below⟩
end Go.Proofs.Ytmbemlpmfklddaa.Own
