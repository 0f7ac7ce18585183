/- FramesJoin answers true. -/
import Derived.Test.YtmbemlpmfklddaaFrApp
import Derived.Test.YtmbemlpmfklddaaPFramesTellx1
namespace Go.Proofs.Ytmbemlpmfklddaa.Own
open Go.RowKit Go.Proofs.YtmbemlpmfklddaaW.PrintWords Go.Proofs.YtmbemlpmfklddaaW.PrintLast Go.Proofs.YtmbemlpmfklddaaW.PrintMore
set_option maxHeartbeats 4000000 in
set_option maxRecDepth 100000 in
theorem FramesJoin_calls (A0 : Option Addr) (c0 : Nat) (l0 : List Rec) (A1 : Option Addr) (c1 : Nat) (l1 : List Int) (w : World)
    (h0 : Kd.C kR w A0 l0.length l0) (q0 : ∀ r ∈ l0, QR r) (h1 : (Kd.int .u8).C w A1 l1.length l1) (k1 : l1.length ≤ c1) (b1 : ∀ x ∈ l1, 0 ≤ x ∧ x < 256) :
    Calls Try.prog 9 #[.slice A0 l0.length c0, .slice A1 l1.length c1] w fun e w' => e = .returned (.bool true) ∧ Below w.heap.size w w' := by
  have hu49 := Try.underlying49
  have hu55 := Try.underlying55
  have H0 := Aside0.mk h0
  have H1 := Aside0.mk h1
  have HQ := Aside0.mk q0
  have HR1 := Aside0.mk b1
  have m0 := h0.2.1
  have m1 := h1.2.1
  have HH := Aside0.mk (Here.nil w)
  clear h0 h1 q0 b1
  by_cases g : 2000 < l1.length
  · have p1 : decide ((2000 : Int) < (l1.length : Int)) = true := decide_eq_true (by omega)
    go_enter Try.func9, Try.ntmps9
    go_wp2_with (go_at_call 27; go_must (refine (alive13 _).mono ?_; rintro e w1 ⟨rfl, h⟩; have HB := Aside0.mk h; clear h))
    go_ret
    exact ⟨rfl, HB.out⟩
  have p1 : decide ((2000 : Int) < (l1.length : Int)) = false := decide_eq_false (by omega)
  go_enter Try.func9, Try.ntmps9
  go_wp2_with fail
  go_loopw [5, 6, 7] (fun v5 v6 v7 wr => ∃ (k : Nat), k ≤ l0.length ∧ k ≤ 12 ∧ v6 = .int .i64 (oks l0 k).length ∧ v7 = .int .i64 k ∧ Aside0 (∀ r ∈ oks l0 k, r.2.length ≤ 500) ∧ Aside0 (Here w wr [BytesT v5 (framesOf (oks l0 k))])) (fun _ _ v7 _ => 12 - (intOf v7).toNat)
  case atStart => exact ⟨0, by omega, by omega, by simp [oks], rfl, ⟨by simp [oks]⟩, ⟨by simpa [oks, framesOf] using HH.out.addNil⟩⟩
  case round =>
    obtain ⟨k, hk1, hk2, rfl, rfl, HL, HI⟩ := hrel
    have ho := oks_len l0 k
    have HF := Aside0.mk (show (framesOf (oks l0 k)).length ≤ 6200 by have h9 := framesOf_len _ HL.out; omega)
    by_cases hlt : k < l0.length ∧ k < 12
    · obtain ⟨hlt1, hlt2⟩ := hlt
      have q1 : decide ((k : Int) < (l0.length : Int)) = true := decide_eq_true (by omega)
      have q2 : decide ((k : Int) < 12) = true := decide_eq_true (by omega)
      obtain ⟨ad, A3, c3, rfl, e0, e1, k3, C3⟩ := atR H0.out k hlt1 rfl
      replace e0 := pw_cell_below HI.out.below e0
      replace e1 := pw_cell_below HI.out.below e1
      have m3 := C3.2.1
      have HC3 := Aside0.mk C3
      have u1 : IntKind.i64.wrap ((k : Int) + 1) = (k : Int) + 1 := IntWalk.i64_in _ ⟨by omega, by omega⟩
      have u2 : IntKind.i64.wrap (((oks l0 k).length : Int) + 1) = ((oks l0 k).length : Int) + 1 := IntWalk.i64_in _ ⟨by omega, by omega⟩
      clear C3
      obtain ⟨r, hr⟩ : ∃ r, r = l0[k] := ⟨_, rfl⟩
      rw [← hr] at e0 e1 k3 HC3 m3
      have HRr := Aside0.mk hr
      clear hr
      obtain ⟨rk, rb⟩ := r
      simp only at e0 e1 k3 HC3 m3
      by_cases g5 : rb.length ≤ 500
      · have p5 : decide ((500 : Int) < (rb.length : Int)) = false := decide_eq_false (by omega)
        by_cases gok : okR (rk, rb)
        · go_wp2_with (first
            | (go_at_call 28; go_must (refine (WriteF_here HI.out (rk, rb) A3 c3 (by exact Kd.C_below HC3.out HI.out.below) k3 gok).mono ?_; rintro e w1 ⟨v, rfl, h⟩; obtain ⟨Ab, cb, rfl, kb, _⟩ := h.bytes.slice; have HJ := Aside0.mk h; clear HI h))
            | (at_builtin; go_must (refine app_here HJ.out.swap rfl (.tmp 49) (.tmp 50) rfl (frameR (rk, rb)) Ab (frameR (rk, rb)).length cb rfl rfl rfl (by obtain ⟨A, c, e, _, h⟩ := HJ.out.bytes.slice; cases e; exact h) (by rw [frameR_len]; have h9 := HF.out; simp only; omega) ?_); intro v1 w2 h; have HK := Aside0.mk h.swap.drop; clear HJ h))
          go_roundw
          case rel =>
            have e := oks_yes hlt1 (by rw [← HRr.out]; exact gok)
            rw [← HRr.out] at e
            refine ⟨k + 1, by omega, by omega, by rw [e, List.length_append]; rfl, by go_num, ⟨?_⟩, ⟨?_⟩⟩
            · rw [e]
              intro r hr
              rcases List.mem_append.1 hr with hr | hr
              · exact HL.out r hr
              · rw [List.mem_singleton.1 hr]; exact g5
            · rw [e, framesOf_append, framesOf_one]
              exact HK.out
          case measure => simp [intOf]; omega
        · go_wp2_with (first
            | (go_at_call 28; go_must (refine (Write_bad (rk, rb) A3 c3 _ (by exact Kd.C_below HC3.out HI.out.below) k3 gok).mono ?_; rintro e w1 ⟨rfl, h⟩; have HJ := Aside0.mk (HI.out.then_ h); clear HI h)))
          go_roundw
          case rel =>
            have e := oks_no hlt1 (by rw [← HRr.out]; exact gok)
            refine ⟨k + 1, by omega, by omega, by rw [e], by go_num, ⟨?_⟩, ⟨?_⟩⟩
            · rw [e]; exact HL.out
            · rw [e]; exact HJ.out
          case measure => simp [intOf]; omega
      · have p5 : decide ((500 : Int) < (rb.length : Int)) = true := decide_eq_true (by omega)
        go_wp2_with (go_at_call 27; go_must (refine (alive13 _).mono ?_; rintro e w1 ⟨rfl, h⟩; have HB := Aside0.mk (HI.out.then_ h); clear HI h))
        go_ret
        exact ⟨rfl, HB.out.below⟩
    · obtain ⟨L, hL⟩ : ∃ L, L = oks l0 k := ⟨_, rfl⟩
      rw [← hL] at HI HL HF ho ⊢
      have HLo := Aside0.mk (show ∀ r ∈ L, okR r by rw [hL]; exact oks_ok)
      have HLr := Aside0.mk (show ∀ r ∈ L, ∀ x ∈ r.2, 0 ≤ x ∧ x < 256 by rw [hL]; exact fun r hr => (HQ.out r (oks_mem r hr)).2)
      clear hL
      obtain ⟨fl, hfl⟩ : ∃ fl, fl = framesOf L := ⟨_, rfl⟩
      rw [← hfl] at HI HF
      have HFR := Aside0.mk (show ∀ x ∈ fl ++ l1, 0 ≤ x ∧ x < 256 by
        intro x hx
        rw [hfl] at hx
        rcases List.mem_append.1 hx with hx | hx
        · exact framesOf_range HLr.out x hx
        · exact HR1.out x hx)
      have HRD := Aside0.mk (show readR (fl ++ l1) = (L ++ (readR l1).1, fl.length + (readR l1).2.1, (readR l1).2.2) by
        rw [hfl]; exact read_frames L HLo.out l1)
      clear hfl
      obtain ⟨fb, hfb⟩ : ∃ fb, fb = fl ++ l1 := ⟨_, rfl⟩
      have HFB := Aside0.mk hfb
      rw [← hfb] at HFR HRD
      clear hfb
      obtain ⟨B, hB⟩ : ∃ B, B = (readR l1).1 := ⟨_, rfl⟩
      obtain ⟨tl, htl⟩ : ∃ tl, tl = (readR l1).2.1 := ⟨_, rfl⟩
      obtain ⟨ec, hec⟩ : ∃ ec, ec = (readR l1).2.2 := ⟨_, rfl⟩
      have HX := Aside0.mk (show readR l1 = (B, tl, ec) by rw [hB, htl, hec])
      rw [← hB, ← htl, ← hec] at HRD
      have htl2 : tl ≤ l1.length := by rw [htl]; exact readR_len l1
      have hBl : B.length ≤ l1.length := by rw [hB]; exact readR_num l1
      clear hB htl hec
      obtain ⟨LB, hLB⟩ : ∃ LB, LB = L ++ B := ⟨_, rfl⟩
      obtain ⟨N, hN⟩ : ∃ N, N = fl.length + tl := ⟨_, rfl⟩
      rw [← hLB, ← hN] at HRD
      have w1 : IntKind.i64.wrap ((L.length : Int) + (B.length : Int)) = (LB.length : Int) := by
        rw [hLB, List.length_append]
        exact IntWalk.i64_in _ ⟨by omega, by omega⟩
      have w2 : IntKind.i64.wrap ((fl.length : Int) + (tl : Int)) = (N : Int) := by
        have h9 := HF.out
        rw [hN]
        exact IntWalk.i64_in _ ⟨by omega, by omega⟩
      have HLB := Aside0.mk hLB
      clear hLB hN
      obtain ⟨A5, c5, rfl, k5, _⟩ := HI.out.bytes.slice
      have t1 : True := trivial
      have t2 : True := trivial
      have t3 : True := trivial
      have t4 : True := trivial
      have hcs : (decide ((k : Int) < (l0.length : Int)) = false ∧ ¬ k < l0.length) ∨ (decide ((k : Int) < (l0.length : Int)) = true ∧ decide ((k : Int) < 12) = false ∧ ¬ k < 12 ∧ k < l0.length) := by
        by_cases hk : k < l0.length
        · exact .inr ⟨decide_eq_true (by omega), decide_eq_false (by omega), by omega, hk⟩
        · exact .inl ⟨decide_eq_false (by omega), hk⟩
      clear hlt
      rcases hcs with ⟨q1, q3⟩ | ⟨q1, q2, q3, q4⟩
      all_goals
        go_wp2_with (first
          | (at_builtin; have _t := t1; go_must (refine app_here HI.out.addEmpty rfl (.tmp 55) (.tmp 56) rfl fl A5 fl.length c5 rfl rfl rfl (bytes_of (Here.nth HI.out.addEmpty 1 (by simp))) (by simp; have h9 := HF.out; omega) ?_); intro v1 w2 h; rw [List.nil_append] at h; have HJ := Aside0.mk h; clear HI h t1)
          | (at_builtin; have _t := t2; go_must (refine app_here HJ.out rfl (.tmp 57) (.tmp 58) rfl l1 A1 l1.length c1 rfl rfl rfl (Kd.C_below H1.out HJ.out.below) (by have h9 := HF.out; omega) ?_); intro v2 w3 h; rw [← HFB.out] at h; have hfc : fb.length ≤ 8200 := (by rw [HFB.out, List.length_append]; have h9 := HF.out; omega); obtain ⟨A6, c6, rfl, k6, _⟩ := h.bytes.slice; have HK := Aside0.mk h; have HFC := Aside0.mk hfc; clear HJ h t2 hfc)
          | (go_at_call 29; have _t := t3; go_must (refine (ReadF_here HK.out A6 c6 fb (bytes_of HK.out) k6 HFR.out (by have h9 := HFC.out; omega)).mono ?_; rw [HRD.out]; rintro e w4 ⟨v4, rfl, h⟩; obtain ⟨A7, c7, rfl, k7, _⟩ := h.recs; have HM := Aside0.mk h; clear HK h t3))
          | (go_at_call 29; have _t := t4; go_must (refine (ReadF_here HM.out A1 c1 l1 (Kd.C_below H1.out HM.out.below) k1 HR1.out (by omega)).mono ?_; rw [HX.out]; rintro e w5 ⟨v5, rfl, h⟩; obtain ⟨A8, c8, rfl, k8, _⟩ := h.recs; have HN := Aside0.mk h; clear HM h t4)))
        obtain ⟨Ps, HP⟩ : ∃ Ps, Aside0 (Here w w5 (RecsT (.slice A8 B.length c8) B :: RecsT (.slice A7 LB.length c7) LB :: Ps)) := ⟨_, HN⟩
        clear HN
        go_loopw [16] (fun v16 wr => ∃ (j : Nat), j ≤ B.length ∧ v16 = .int .i64 j ∧ Aside0 (Here w wr (RecsT (.slice A8 B.length c8) B :: RecsT (.slice A7 LB.length c7) LB :: Ps))) (fun v16 _ => B.length - (intOf v16).toNat)
        case atStart => exact ⟨0, by omega, rfl, HP⟩
        case round =>
          clear HP
          obtain ⟨j, hj, rfl, HP⟩ := hrel
          by_cases hjl : j < B.length
          · have z1 : decide ((j : Int) < (B.length : Int)) = true := decide_eq_true (by omega)
            obtain ⟨q, hq⟩ : ∃ q, q = L.length + j := ⟨_, rfl⟩
            have hql : q < LB.length := by rw [hq, HLB.out, List.length_append]; omega
            have z2 : IntKind.i64.wrap ((L.length : Int) + (j : Int)) = (q : Int) := by rw [hq]; exact IntWalk.i64_in _ ⟨by omega, by omega⟩
            have z3 : IntKind.i64.wrap ((j : Int) + 1) = (j : Int) + 1 := IntWalk.i64_in _ ⟨by omega, by omega⟩
            obtain ⟨ad, A3, c3, rfl, e0, e1, k3, C3⟩ := atR (recs_of HP.out) j hjl rfl
            obtain ⟨ae, A4, c4, rfl, f0, f1, k4, C4⟩ := atR (recs_of HP.out.swap) q hql rfl
            have hsame : LB[q] = B[j] := by
              have e : LB[q]? = B[j]? := by rw [HLB.out, hq, List.getElem?_append_right (by omega)]; congr 1; omega
              rw [List.getElem?_eq_getElem hql, List.getElem?_eq_getElem hjl] at e
              exact Option.some.inj e
            rw [hsame] at f0 f1 k4 C4
            generalize B[j] = r at e0 e1 k3 C3 f0 f1 k4 C4
            clear hsame hq
            obtain ⟨rk, rb⟩ := r
            simp only at e0 e1 k3 C3 f0 f1 k4 C4
            have HC3 := Aside0.mk C3
            have HC4 := Aside0.mk C4
            have HS := Aside0.mk (And.intro e0 (And.intro e1 (And.intro f0 f1)))
            have HB0 := Aside0.mk (Below.refl wr.heap.size wr)
            clear C3 C4
            go_wp2_with fail
            go_region_held3 (fun w' => w'.cell? (ad.add (j * 2)) = some (.int .i64 rk) ∧ w'.cell? ⟨(ad.add (j * 2)).block, (ad.add (j * 2)).off + 1, none⟩ = some (.slice A3 rb.length c3) ∧ w'.cell? (ae.add (q * 2)) = some (.int .i64 rk) ∧ w'.cell? ⟨(ae.add (q * 2)).block, (ae.add (q * 2)).off + 1, none⟩ = some (.slice A4 rb.length c4))
              (first
                | exact cells_keep4 HS.out HBa.out
                | exact cells_keep4 HS.out HBb.out
                | exact HS.out
                | exact cells_keep4 HS.out HBa.out.drew
                | exact cells_keep4 HS.out HBb.out.drew
                | exact cells_keep4 HS.out HB0.out.drew)
              (first
                | (go_at_call_of 30 A3; go_must (refine (Go.Proofs.Ytmbemlpmfklddaa.PFramesTell.truglaw13_As.calls rk A3 c3 rb rk (strOfNums rb) _ (by exact Kd.C_below HC3.out (by first | exact HBb.out | exact HBb.out.drew | exact HB0.out | exact HB0.out.drew)) k3 rfl).mono ?_; rintro e w6 ⟨rfl, h⟩; have HBa := Aside0.mk (below_step (by first | exact HBb.out | exact HBb.out.drew | exact HB0.out | exact HB0.out.drew) h); clear h))
                | (go_at_call_of 30 A4; go_must (refine (Go.Proofs.Ytmbemlpmfklddaa.PFramesTell.truglaw13_As.calls rk A4 c4 rb rk (strOfNums rb) _ (by exact Kd.C_below HC4.out (by first | exact HBa.out | exact HBa.out.drew | exact HB0.out | exact HB0.out.drew)) k4 rfl).mono ?_; rintro e w7 ⟨rfl, h⟩; have HBb := Aside0.mk (below_step (by first | exact HBa.out | exact HBa.out.drew | exact HB0.out | exact HB0.out.drew) h); clear h)))
            go_wp2_with fail
            go_roundw
            case rel => exact ⟨j + 1, by omega, by go_num, ⟨HP.out.then_ HBa.out⟩⟩
            case measure => simp [intOf]; omega
          · have z1 : decide ((j : Int) < (B.length : Int)) = false := decide_eq_false (by omega)
            go_wp2_with (go_at_call 27; go_must (refine (alive13 _).mono ?_; rintro e w1 ⟨rfl, h⟩; have HB := Aside0.mk (HP.out.then_ h); clear HP h))
            go_ret
            exact ⟨rfl, HB.out.below⟩
end Go.Proofs.Ytmbemlpmfklddaa.Own
