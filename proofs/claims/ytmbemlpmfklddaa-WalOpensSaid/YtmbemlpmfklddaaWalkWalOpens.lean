/- The walk of WalOpens: whatever bytes stand on a disk, what is opened is as the reference says. -/
import Derived.Test.YtmbemlpmfklddaaRfC
import Derived.Test.YtmbemlpmfklddaaRfA
import Derived.Test.YtmbemlpmfklddaaLgc
import Derived.Deep.RegionWith
import Derived.Deep.DrawnRows
namespace Go.Proofs.Ytmbemlpmfklddaa.Own
open Go.RowKit Go.Proofs.YtmbemlpmfklddaaW.PrintWords Go.Proofs.YtmbemlpmfklddaaW.PrintLast Go.Proofs.YtmbemlpmfklddaaW.PrintMore
theorem keep_str {w w2 : World} {A : Option Addr} {c n : Nat} {l : List Int} {s : ByteArray} (hC : (Kd.int .u8).C w A l.length l) (hn : n = l.length) (hs : s = strOfNums l) (hb : Below w.heap.size w w2) :
    Sem.run Try.prog (convert 22 9 (.slice A n c)) w2 = .ok (.string s) w2 := by
  subst hn hs
  exact Kd.C_string Try.underlying22 Try.underlying5 Try.underlying9 (Kd.C_below hC hb)
theorem same_p {w W : World} {Ps : List Thing} {A B : Option Addr} {na nb ca cb : Nat} {L : List (List Int)} (ha : Here w W (RawT 1 9 (.slice A na ca) (strsR L) :: Ps)) (hb : BL.C W B L.length L) (h1 : na = L.length) (h2 : nb = L.length) :
    Calls Try.prog 42 #[.slice A na ca, .slice B nb cb] W fun e w' => e = .returned (.bool true) ∧ Below W.heap.size W w' := by
  subst h1 h2
  have := raw_of ha
  rw [strsR_len] at this
  exact same_yes A B ca cb L W this hb
section
variable {w W : World} {Ps : List Thing} {A B C D E F : Thing}
theorem Here.back3 (h : Here w W (A :: B :: C :: D :: Ps)) : Here w W (B :: C :: D :: A :: Ps) := h.perm (List.perm_middle (l₁ := [B, C, D]) (a := A) (l₂ := Ps)).symm
theorem Here.pick3 (h : Here w W (A :: B :: C :: D :: E :: Ps)) : Here w W (C :: D :: E :: A :: B :: Ps) :=
  h.perm ((List.perm_append_comm (l₁ := [A, B]) (l₂ := [C, D, E])).append_right Ps)
theorem Here.pick33 (h : Here w W (A :: B :: C :: D :: E :: F :: Ps)) : Here w W (D :: E :: F :: A :: B :: C :: Ps) :=
  h.perm ((List.perm_append_comm (l₁ := [A, B, C]) (l₂ := [D, E, F])).append_right Ps)
theorem Here.text {v : Value} {L : List (List Int)} (h : Here w W (RawT 1 9 v (strsR L) :: Ps)) : ∃ A c, v = .slice A L.length c := by
  obtain ⟨A, c, e, _, _⟩ := h.raw
  rw [strsR_len] at e
  exact ⟨A, c, e⟩
end
theorem opn_ok {d : Dm} (ho : d.Ok) (hB : ByD d) {gen : Int} {area tail : Nat} {L : List Rec} {P R : List (List Int)} (hf : OpensR d gen area tail L P R) : (opnD d area tail).Ok := by
  obtain ⟨h1, h2, h3, h4⟩ := hf
  have ha : area ≤ 1 := by have := (slots_range hB ho).2; rw [h1] at this; exact this
  have htl : tail ≤ Sz d := by have := readR_len (areaB d area); rw [h3, area_len ho ha] at this; exact this
  exact Dm.ok_write ho ⟨by omega, by omega, by rw [List.length_replicate]; have := plc_fits ho ha htl; omega⟩
set_option maxHeartbeats 8000000 in
set_option maxRecDepth 100000 in
theorem WalOpens_calls (a0 a2 : Int) (A1 : Option Addr) (c1 : Nat) (l1 : List Int) (w : World) (h1 : (Kd.int .u8).C w A1 l1.length l1) (_k1 : l1.length ≤ c1) (r1 : ∀ x ∈ l1, 0 ≤ x ∧ x < 256) (ra : -9223372036854775808 ≤ a2 ∧ a2 ≤ 9223372036854775807) :
    Calls Try.prog 11 #[.int .i64 a0, .slice A1 l1.length c1, .int .i64 a2] w fun e w' => e = .returned (.bool true) ∧ Below w.heap.size w w' := by
  have H1 := Aside0.mk h1
  have HR1 := Aside0.mk r1
  have HH := Aside0.mk (Here.nil w)
  have m1 := h1.2.1
  clear h1 r1
  by_cases hn : a0 < 64 ∨ 262144 < a0
  · have t1 : True := trivial
    go_enter Try.func11, Try.ntmps11
    go_wp2_with (first
      | (go_at_call 20; go_must (refine (New_no a0 _ hn).mono ?_; rintro e w1 ⟨rfl, rfl⟩))
      | (go_at_call 36; go_must (refine (alive14 _).mono ?_; rintro e w2 ⟨rfl, hb⟩; have HB := Aside0.mk hb; clear hb)))
    go_ret
    exact ⟨rfl, HB.out⟩
  · obtain ⟨n, rfl⟩ : ∃ n : Nat, a0 = n := ⟨a0.toNat, by omega⟩
    have n1 : 64 ≤ n := by omega
    have n2 : n ≤ 262144 := by omega
    clear hn
    by_cases hg : n ≤ 2000 ∧ l1.length ≤ 2000 ∧ 0 ≤ a2
    · obtain ⟨g1, g2, g3⟩ := hg
      have f1 : decide ((2000 : Int) < (n : Int)) = false := decide_eq_false (by omega)
      have f2 : decide ((2000 : Int) < (l1.length : Int)) = false := decide_eq_false (by omega)
      have f3 : decide (a2 < 0) = false := decide_eq_false (by omega)
      obtain ⟨d0, hd0⟩ : ∃ d0, d0 = Dm.new n := ⟨_, rfl⟩
      have HD0 := Aside0.mk hd0
      have HO0 := Aside0.mk (show d0.Ok by rw [hd0]; exact Dm.ok_new n1 n2)
      have HY0 := Aside0.mk (show ByD d0 by rw [hd0]; exact ByD.new n)
      have q0 : d0.q.length ≤ 0 := by rw [hd0]; simp [Dm.new]
      have hb0 : d0.b.length = n := by rw [hd0]; simp [Dm.new]
      obtain ⟨er, her⟩ : ∃ er, er = erW d0 a2 l1 := ⟨_, rfl⟩
      have HER := Aside0.mk her
      obtain ⟨d1, hd1⟩ : ∃ d1, d1 = dmW d0 a2 l1 := ⟨_, rfl⟩
      have HD1 := Aside0.mk hd1
      have HO1 := Aside0.mk (show d1.Ok by rw [hd1]; exact dmW_ok HO0.out a2 l1)
      have HY1 := Aside0.mk (show ByD d1 by rw [hd1]; exact dmW_byt HY0.out a2 HR1.out)
      have q1 : d1.q.length ≤ 1 := by have := dmW_q d0 a2 l1; rw [hd1]; omega
      have hb1 : d1.b.length = n := by rw [hd1, dmW_b]; exact hb0
      obtain ⟨d2, hd2⟩ : ∃ d2, d2 = d1.flush := ⟨_, rfl⟩
      have HD2 := Aside0.mk hd2
      have HO2 := Aside0.mk (show d2.Ok by rw [hd2]; exact Dm.ok_flush HO1.out)
      have HY2 := Aside0.mk (show ByD d2 by rw [hd2]; exact HY1.out.flush HO1.out)
      have q2 : d2.q.length ≤ 0 := by rw [hd2]; simp [Dm.flush]
      have hb2 : d2.b.length = n := by rw [hd2]; show d1.now.length = n; rw [Dm.now_length HO1.out]; exact hb1
      obtain ⟨s, hs⟩ : ∃ s, s = strOfNums l1 := ⟨_, rfl⟩
      have HS := Aside0.mk hs
      have pe : (er != er) = false := bne_self_eq_false er
      have HW := open_ways d2
      have HQ0 := Aside0.mk q0
      have HQ1 := Aside0.mk q1
      have HQ2 := Aside0.mk q2
      have HB0 := Aside0.mk hb0
      have HB2 := Aside0.mk hb2
      clear hd0 her hd1 hd2 hs hb0 hb1 hb2 q0 q1 q2
      rcases HW with ⟨eo, he, hf⟩ | ⟨gen, area, tail, L, P, R, hf⟩
      · have HF := Aside0.mk hf
        obtain ⟨S, hS⟩ : ∃ S, S = strOfNums (d2.read 0 n) := ⟨_, rfl⟩
        have HSS := Aside0.mk hS
        have qS : (S.toList == S.toList) = true := beq_self_eq_true _
        have qeo : (eo != eo) = false := bne_self_eq_false eo
        have HFT := Aside0.mk (show d2.fits (0 : Nat) (n : Nat) from ⟨by omega, by omega, by rw [HB2.out]; omega⟩)
        have HRL := Aside0.mk (show (d2.read 0 n).length = n from read_length HO2.out (by rw [HB2.out]; omega))
        have t1 : True := trivial
        clear hf hS he
        go_enter Try.func11, Try.ntmps11
        go_wp2_with (first
          | (go_at_call 20; go_must (refine (New_here HH.out n n1 n2).mono ?_; rw [← HD0.out]; rintro e w1 ⟨g, rfl, h⟩; have HA := Aside0.mk h; clear h HH))
          | (go_at_call 37; go_must (refine (RefNew HA.out n n2).mono ?_; rw [← HD0.out]; rintro e w2 ⟨gx, rfl, h⟩; have HC := Aside0.mk h; have zc := keep_str (c := c1) H1.out rfl HS.out (Below.drew h.below); clear h HA)))
        go_region_with (first
          | (go_at_call 21; go_must (refine (Write_any (Here.nth HC.out.drew 3 (by simp)) (by have := HQ0.out; omega) a2 A1 c1 l1 (by exact Kd.C_below H1.out HC.out.drew.below)).mono ?_; rw [← HER.out, ← HD1.out]; rintro e w3 ⟨rfl, h⟩; have HE := Aside0.mk (Here.back3 h); have zd := keep_str (c := c1) H1.out rfl HS.out h.below; clear h HC))
          | (go_at_call 38; go_must (refine (RefWrite_any HE.out HO0.out (by have := HQ0.out; omega) a2 l1 s HS.out ra (by omega)).mono ?_; rw [← HER.out, ← HD1.out]; rintro e w4 ⟨rfl, va, vt, h⟩; have HG := Aside0.mk h; clear h HE)))
        all_goals
          go_wp2_with (first
            | (go_at_call 23; go_must (refine (Flush_here (Here.nth HG.out 3 (by simp)) (by have := HQ1.out; omega)).mono ?_; rw [← HD2.out]; rintro e w5 ⟨rfl, h⟩; have HI := Aside0.mk (Here.back3 h); clear h HG))
            | (go_at_call 39; go_must (refine (RefFlush (fun _ h L hL => RefNow h HO1.out (by have := HQ1.out; omega) L hL) HI.out HO1.out (by have := HQ1.out; omega)).mono ?_; rw [← HD2.out]; rintro e w6 ⟨rfl, h⟩; have HJ := Aside0.mk h; clear h HI))
            | (go_at_call 40; go_must (refine (Open_fails (Here.nth HJ.out 3 (by simp)) (by have := HQ2.out; omega) HY2.out eo HF.out).mono ?_; rintro e w7 ⟨rfl, h⟩; have HK := Aside0.mk (Here.back3 h); clear h HJ))
            | (go_at_call 41; go_must (refine (RefOpen_fails HK.out HO2.out (by have := HQ2.out; omega) HY2.out eo HF.out).mono ?_; rintro e w8 ⟨rfl, h⟩; have HL := Aside0.mk h; clear h HK))
            | (go_at_call 42; have _t := t1; clear t1; go_must (refine (same_nil _).mono ?_; rintro e w9 ⟨rfl, hb⟩; have HM := Aside0.mk (HL.out.then_ hb); clear hb HL))
            | (go_at_call 42; go_must (refine (same_nil _).mono ?_; rintro e w10 ⟨rfl, hb⟩; have HN := Aside0.mk (HM.out.then_ hb); clear hb HM))
            | (go_at_call 24; go_must (refine (Read_here (Here.nth HN.out 3 (by simp)) (by have := HQ2.out; omega) 0 n HFT.out).mono ?_; rintro e w11 ⟨v, rfl, h⟩; obtain ⟨A6, c6, hv, k6, _⟩ := h.bytes.slice; rw [HRL.out] at hv; subst hv; have HP := Aside0.mk (Here.pick3 h); clear h HN k6))
            | (go_at_call 43; go_must (refine (RefRead_now HP.out HO2.out (by have := HQ2.out; omega) 0 n HFT.out S HSS.out).mono ?_; rintro e w12 ⟨rfl, h⟩; have HQ := Aside0.mk h; clear h HP))
            | (go_at_call 36; go_must (refine (alive14 _).mono ?_; rintro e w13 ⟨rfl, hb⟩; have HB := Aside0.mk (HQ.out.then_ hb).below; have zs := keep_str (c := c6) (bytes_of (Here.nth HQ.out 3 (by simp))) HRL.out.symm HSS.out hb; clear hb HQ)))
          go_ret
          exact ⟨rfl, HB.out⟩
      · have HF := Aside0.mk hf
        obtain ⟨d3, hd3⟩ : ∃ d3, d3 = opnD d2 area tail := ⟨_, rfl⟩
        have HD3 := Aside0.mk hd3
        have HO3 := Aside0.mk (show d3.Ok by rw [hd3]; exact opn_ok HO2.out HY2.out hf)
        have HQ3 := Aside0.mk (show d3.q.length ≤ 1 by rw [hd3]; simp [opnD, Dm.write, List.length_eq_zero_iff.1 (Nat.le_zero.1 HQ2.out)])
        have HB3 := Aside0.mk (show d3.b.length = n by rw [hd3]; exact HB2.out)
        obtain ⟨S, hS⟩ : ∃ S, S = strOfNums (d3.read 0 n) := ⟨_, rfl⟩
        have HSS := Aside0.mk hS
        have qS : (S.toList == S.toList) = true := beq_self_eq_true _
        have HFT := Aside0.mk (show d3.fits (0 : Nat) (n : Nat) from ⟨by omega, by omega, by rw [HB3.out]; omega⟩)
        have HRL := Aside0.mk (show (d3.read 0 n).length = n from read_length HO3.out (by rw [HB3.out]; omega))
        have t1 : True := trivial
        clear hf hS hd3
        go_enter Try.func11, Try.ntmps11
        go_wp2_with (first
          | (go_at_call 20; go_must (refine (New_here HH.out n n1 n2).mono ?_; rw [← HD0.out]; rintro e w1 ⟨g, rfl, h⟩; have HA := Aside0.mk h; clear h HH))
          | (go_at_call 37; go_must (refine (RefNew HA.out n n2).mono ?_; rw [← HD0.out]; rintro e w2 ⟨gx, rfl, h⟩; have HC := Aside0.mk h; have zc := keep_str (c := c1) H1.out rfl HS.out (Below.drew h.below); clear h HA)))
        go_region_with (first
          | (go_at_call 21; go_must (refine (Write_any (Here.nth HC.out.drew 3 (by simp)) (by have := HQ0.out; omega) a2 A1 c1 l1 (by exact Kd.C_below H1.out HC.out.drew.below)).mono ?_; rw [← HER.out, ← HD1.out]; rintro e w3 ⟨rfl, h⟩; have HE := Aside0.mk (Here.back3 h); have zd := keep_str (c := c1) H1.out rfl HS.out h.below; clear h HC))
          | (go_at_call 38; go_must (refine (RefWrite_any HE.out HO0.out (by have := HQ0.out; omega) a2 l1 s HS.out ra (by omega)).mono ?_; rw [← HER.out, ← HD1.out]; rintro e w4 ⟨rfl, va, vt, h⟩; have HG := Aside0.mk h; clear h HE)))
        all_goals
          go_wp2_with (first
            | (go_at_call 23; go_must (refine (Flush_here (Here.nth HG.out 3 (by simp)) (by have := HQ1.out; omega)).mono ?_; rw [← HD2.out]; rintro e w5 ⟨rfl, h⟩; have HI := Aside0.mk (Here.back3 h); clear h HG))
            | (go_at_call 39; go_must (refine (RefFlush (fun _ h L hL => RefNow h HO1.out (by have := HQ1.out; omega) L hL) HI.out HO1.out (by have := HQ1.out; omega)).mono ?_; rw [← HD2.out]; rintro e w6 ⟨rfl, h⟩; have HJ := Aside0.mk h; clear h HI))
            | (go_at_call 40; go_must (refine (Open_opens (Here.nth HJ.out 3 (by simp)) (by have := HQ2.out; omega) HY2.out gen area tail L P R HF.out).mono ?_; rw [← HD3.out]; rintro e w7 ⟨gl, vp, vr, rfl, h⟩; obtain ⟨Ap, cp, Ar, cr, rfl, rfl, _, _⟩ := (Here.nth h 2 (by simp)).two; have HK := Aside0.mk (Here.pick33 h); clear h HJ))
            | (go_at_call 41; go_must (refine (RefOpen_opens HK.out HO2.out (by have := HQ2.out; omega) HY2.out gen area tail L P R HF.out).mono ?_; rw [← HD3.out]; rintro e w8 ⟨glx, vpx, vrx, va2, vt2, rfl, h⟩; obtain ⟨Apx, cpx, rfl⟩ := (Here.nth h 4 (by simp)).text; obtain ⟨Arx, crx, rfl⟩ := (Here.nth h 5 (by simp)).text; have HL := Aside0.mk h; clear h HK))
            | (go_at_call 42; have _t := t1; clear t1; go_must (obtain ⟨_, _, _, _, e1, e2, KP, KR⟩ := (Here.nth HL.out 8 (by simp)).two; injection e1 with e1 _ _; subst e1; refine (same_p (Here.nth HL.out 4 (by simp)) KP rfl rfl).mono ?_; rintro e w9 ⟨rfl, hb⟩; have HM := Aside0.mk (HL.out.then_ hb); clear hb HL KP KR e2))
            | (go_at_call 42; go_must (obtain ⟨_, _, _, _, e1, e2, KP, KR⟩ := (Here.nth HM.out 8 (by simp)).two; injection e2 with e2 _ _; subst e2; refine (same_p (Here.nth HM.out 5 (by simp)) KR rfl rfl).mono ?_; rintro e w10 ⟨rfl, hb⟩; have HN := Aside0.mk (HM.out.then_ hb); clear hb HM KP KR e1))
            | (go_at_call 24; go_must (refine (Read_here (Here.nth HN.out 7 (by simp)) (by have := HQ3.out; omega) 0 n HFT.out).mono ?_; rintro e w11 ⟨v, rfl, h⟩; obtain ⟨A6, c6, hv, k6, _⟩ := h.bytes.slice; rw [HRL.out] at hv; subst hv; have HP := Aside0.mk (Here.pick33 h); clear h HN k6))
            | (go_at_call 43; go_must (refine (RefRead_now HP.out HO3.out (by have := HQ3.out; omega) 0 n HFT.out S HSS.out).mono ?_; rintro e w12 ⟨rfl, h⟩; have HQ := Aside0.mk h; clear h HP))
            | (go_at_call 36; go_must (refine (alive14 _).mono ?_; rintro e w13 ⟨rfl, hb⟩; have HB := Aside0.mk (HQ.out.then_ hb).below; have zs := keep_str (c := c6) (bytes_of (Here.nth HQ.out 3 (by simp))) HRL.out.symm HSS.out hb; clear hb HQ)))
          go_ret
          exact ⟨rfl, HB.out⟩
    · have hq : ∀ (Q : Prop), (decide ((2000 : Int) < (n : Int)) = true → Q) → (decide ((2000 : Int) < (n : Int)) = false → decide ((2000 : Int) < (l1.length : Int)) = true → Q) → (decide ((2000 : Int) < (n : Int)) = false → decide ((2000 : Int) < (l1.length : Int)) = false → decide (a2 < 0) = true → Q) → Q := by
        intro Q q1 q2 q3
        by_cases h1 : 2000 < n
        · exact q1 (decide_eq_true (by omega))
        · by_cases h2 : 2000 < l1.length
          · exact q2 (decide_eq_false (by omega)) (decide_eq_true (by omega))
          · exact q3 (decide_eq_false (by omega)) (decide_eq_false (by omega)) (decide_eq_true (by omega))
      clear hg
      refine hq _ (fun g0 => ?_) (fun g0 g1 => ?_) (fun g0 g1 g2 => ?_)
      all_goals clear hq
      all_goals
        go_enter Try.func11, Try.ntmps11
        go_wp2_with (first
          | (go_at_call 20; go_must (refine (New_here HH.out n n1 n2).mono ?_; rintro e w1 ⟨g, rfl, h⟩; have HA := Aside0.mk h; clear h HH))
          | (go_at_call 36; go_must (refine (alive14 _).mono ?_; rintro e w2 ⟨rfl, hb⟩; have HB := Aside0.mk (HA.out.then_ hb).below; clear hb HA)))
        go_ret
        exact ⟨rfl, HB.out⟩
end Go.Proofs.Ytmbemlpmfklddaa.Own
