/- The reference's log: Begin; lists as texts. -/
import Derived.Test.YtmbemlpmfklddaaRlC
import Derived.BigQuiet
import Derived.Deep.QuietTactic
namespace Go.Proofs.Ytmbemlpmfklddaa.Own
open Go.RowKit Go.Proofs.YtmbemlpmfklddaaW.PrintWords Go.Proofs.YtmbemlpmfklddaaW.PrintLast Go.Proofs.YtmbemlpmfklddaaW.PrintMore
theorem conv_str {w w2 : World} {A : Option Addr} {c n : Nat} {l : List Int} {s : ByteArray} (hC : (Kd.int .u8).C w A l.length l) (hn : n = l.length) (hs : s = strOfNums l) (hb : Below w.heap.size w w2) :
    Sem.run Try.prog (convert 22 9 (.slice A n c)) w2 = .ok (.string s) w2 := by
  subst hn hs
  exact Kd.C_string Try.underlying22 Try.underlying5 Try.underlying9 (Kd.C_below hC hb)
theorem strsR_take {L : List (List Int)} {k : Nat} (hk : k < L.length) {t : ByteArray} (ht : t = strOfNums L[k]) : strsR (L.take k) ++ [[.string t]] = strsR (L.take (k + 1)) := by
  rw [List.take_add_one, List.getElem?_eq_getElem hk]
  exact strsR_snoc ht
section
variable {w W : World} {Ps : List Thing}
set_option maxHeartbeats 2000000 in
set_option maxRecDepth 100000 in
theorem texts_here (h : Here w W Ps) (A : Option Addr) (c : Nat) (L : List (List Int)) (h0 : (Kd.slice 5 (Kd.int .u8)).C W A L.length L) (hL : L.length ≤ 1000) :
    Calls Try.prog 88 #[.slice A L.length c] W fun e W' => ∃ A' c', e = .returned (.slice A' L.length c') ∧ Here w W' (RawT 1 9 (.slice A' L.length c') (strsR L) :: Ps) ∧ Below W.heap.size W W' := by
  have HH := Aside0.mk h
  have HB0 := Aside0.mk (Here.nil W)
  have H0 := Aside0.mk h0
  clear h h0
  go_enter Try.func88, Try.ntmps88
  go_wp2_with fail
  go_loopw [3, 4] (fun v3 v4 wr => ∃ (k : Nat) (A5 : Option Addr) (c5 : Nat), v4 = .int .i64 k ∧ k ≤ L.length ∧ v3 = .slice A5 k c5 ∧ Aside0 (Here W wr [RawT 1 9 v3 (strsR (L.take k))])) (fun _ v4 _ => L.length - (intOf v4).toNat)
  case atStart => exact ⟨0, none, 0, rfl, by omega, rfl, ⟨HB0.out.addRaw 1 9⟩⟩
  case round =>
    obtain ⟨k, A5, c5, rfl, hk, rfl, HI⟩ := hrel
    by_cases hlt : k < L.length
    · have q1 : decide ((k : Int) < (L.length : Int)) = true := decide_eq_true (by omega)
      have u1 : IntKind.i64.wrap ((k : Int) + 1) = (k : Int) + 1 := IntWalk.i64_in _ ⟨by omega, by omega⟩
      obtain ⟨ad, A3, c3, rfl, e0, k3, C3⟩ := atRows H0.out k hlt rfl
      replace e0 := pw_cell_below HI.out.below e0
      obtain ⟨s, hs⟩ : ∃ s, s = strOfNums L[k] := ⟨_, rfl⟩
      have HS := Aside0.mk hs
      have z1 := conv_str (c := c3) C3 rfl hs HI.out.below
      have HLT := Aside0.mk (show (strsR (L.take k)).length = k by rw [strsR_len, List.length_take]; omega)
      have HE := Aside0.mk (strsR_take hlt hs)
      generalize L[k].length = n at e0 k3 z1
      clear hs C3 HS
      go_wp2_with (at_builtin; go_must (refine text_app1 (HI.out.alloc _) rfl (.tmp 11) (.tmp 17) rfl s _ rfl rfl (heap_at rfl) (by rw [HLT.out]; omega) ?_); intro v7 w8 h; obtain ⟨A9, c9, hv9, k9, _⟩ := h.raw; rw [List.length_append, HLT.out] at hv9; subst hv9; rw [HE.out] at h; have HI4 := Aside0.mk h; clear HI h k9)
      go_roundw
      case rel => exact ⟨k + 1, A9, c9, by go_num, by omega, rfl, HI4⟩
      case measure => simp [intOf]; omega
    · have q1 : decide ((k : Int) < (L.length : Int)) = false := decide_eq_false (by omega)
      obtain rfl : k = L.length := by omega
      go_wp2_with fail
      go_ret
      have hz := HI.out
      rw [List.take_length] at hz
      exact ⟨A5, c5, rfl, HH.out.join1 hz, hz.below⟩
end
/-- The text of a change's parts. -/
def txtP (L : List (List Int)) : ByteArray := strOfNums (framesOf (recsOf 1 L))
theorem txtP_take {L : List (List Int)} {k : Nat} (hk : k < L.length) : txtP (L.take (k + 1)) = txtP (L.take k) ++ strOfNums (frameR (1, L[k])) := by
  unfold txtP
  rw [recs_take hk, framesOf_append, framesOf_one, strs_append]
theorem txtP_size {L : List (List Int)} (hL : ∀ p ∈ L, p.length ≤ 1000) (k : Nat) : (txtP (L.take k)).size ≤ 1009 * L.length := by
  unfold txtP
  rw [strOfNums_size]
  refine Nat.le_trans (framesOf_len (n := 1000) (recsOf 1 (L.take k)) (fun r hr => ?_)) ?_
  · unfold recsOf at hr
    obtain ⟨p, hp, rfl⟩ := List.mem_map.1 hr
    exact hL p (List.mem_of_mem_take hp)
  · rw [recs_len, List.length_take]
    exact Nat.mul_le_mul_left _ (Nat.min_le_right _ _)
section
variable {w W : World} {Ps : List Thing} {gr gx : Nat} {x : Lg} {sp : ByteArray} {d : Dm} {va vt : Value}
theorem rl_456 {Qs : List Thing} (h : Here w W (CellsT gr (rlC gx x sp) 101 :: Qs)) : W.cell? ⟨gr, 4, none⟩ = some (.int .i64 x.all) ∧ W.cell? ⟨gr, 5, none⟩ = some (.int .i64 x.sure) ∧ W.cell? ⟨gr, 6, none⟩ = some (.int .i64 x.stage) :=
  ⟨(rl_cells h).2.2.2.2.1, (rl_cells h).2.2.2.2.2.1, (rl_cells h).2.2.2.2.2.2.1⟩
set_option maxHeartbeats 2000000 in
set_option maxRecDepth 100000 in
theorem RlBegin_busy (h : RlH w W gr gx x sp d va vt Ps) (A : Option Addr) (n c : Nat) (hb : x.stage ≠ 0 ∨ x.sure < x.all) :
    Calls Try.prog 87 #[.pointer (some ⟨gr, 0, none⟩), .slice A n c] W fun e W' => e = .returned (.int .i64 15) ∧ RlH w W' gr gx x sp d va vt Ps := by
  have HH := Aside0.mk h
  obtain ⟨c4, c5, c6⟩ := rl_456 h
  obtain ⟨st, hst⟩ : ∃ st, st = x.stage := ⟨_, rfl⟩
  obtain ⟨al, hal⟩ : ∃ al, al = x.all := ⟨_, rfl⟩
  obtain ⟨su, hsu⟩ : ∃ su, su = x.sure := ⟨_, rfl⟩
  rw [← hst] at c6 hb
  rw [← hal] at c4 hb
  rw [← hsu] at c5 hb
  clear h hst hal hsu
  by_cases g1 : 0 < st
  · have q1 : decide ((0 : Int) < (st : Int)) = true := decide_eq_true (by omega)
    clear hb
    go_enter Try.func87, Try.ntmps87
    go_wp2_with fail
    go_quiet (fail)
    go_wp2_with fail
    go_ret
    exact ⟨rfl, HH.out.then_ (pw_below_drewN (Below.refl _ _) _)⟩
  · have q1 : decide ((0 : Int) < (st : Int)) = false := decide_eq_false (by omega)
    have q2 : decide ((su : Int) < (al : Int)) = true := decide_eq_true (by omega)
    have q3 : su < al := by omega
    clear hb
    go_enter Try.func87, Try.ntmps87
    go_wp2_with fail
    go_quiet (fail)
    go_wp2_with fail
    go_ret
    exact ⟨rfl, HH.out.then_ (pw_below_drewN (Below.refl _ _) _)⟩
set_option maxHeartbeats 4000000 in
set_option maxRecDepth 100000 in
theorem RlBegin_go (A : Option Addr) (c : Nat) (L : List (List Int)) (h : RlH w W gr gx x sp d va vt (RawT 1 9 (.slice A L.length c) (strsR L) :: Ps)) (ho : d.Ok) (hL : L.length ≤ 5) (hp : ∀ p ∈ L, p.length ≤ 1000) (hB : ∀ p ∈ L, Byt p) (hst : x.stage = 0) (hsu : ¬ x.sure < x.all) :
    Calls Try.prog 87 #[.pointer (some ⟨gr, 0, none⟩), .slice A L.length c] W fun e W' =>
      (Sz d < (framesOf (recsOf 1 L)).length → e = .returned (.int .i64 5) ∧ RlH w W' gr gx x sp d va vt (RawT 1 9 (.slice A L.length c) (strsR L) :: Ps)) ∧
      (¬ Sz d < (framesOf (recsOf 1 L)).length → e = .returned (.int .i64 0) ∧ RlH w W' gr gx { x with stage := 1 } (txtP L) d va vt (RawT 1 9 (.slice A L.length c) (strsR L) :: Ps)) := by
  have HH := Aside0.mk h
  have HO := Aside0.mk ho
  have hlo := ho.lo
  have hhi := ho.hi
  have HP := Aside0.mk hp
  have HBY := Aside0.mk hB
  obtain ⟨c4, c5, c6⟩ := rl_456 h
  rw [hst] at c6
  have hC := raw_of (Here.nth h 4 (by simp))
  rw [strsR_len] at hC
  have HC := Aside0.mk hC
  obtain ⟨al, hal⟩ : ∃ al, al = x.all := ⟨_, rfl⟩
  obtain ⟨su, hsu2⟩ : ∃ su, su = x.sure := ⟨_, rfl⟩
  rw [← hal] at c4 hsu
  rw [← hsu2] at c5 hsu
  have q2 : decide ((su : Int) < (al : Int)) = false := decide_eq_false (by omega)
  have q3 : ¬ su < al := hsu
  obtain ⟨z, hz⟩ : ∃ z, z = Sz d := ⟨_, rfl⟩
  have HZ := Aside0.mk hz
  have HSZ := Aside0.mk (fun k => txtP_size hp k)
  have HFL := Aside0.mk (show (framesOf (recsOf 1 L)).length = (txtP L).size by unfold txtP; rw [strOfNums_size])
  clear h ho hp hB hC hst hsu hal hsu2 hz
  go_enter Try.func87, Try.ntmps87
  go_wp2_with fail
  go_quiet (fail)
  go_wp2_with fail
  clear c4 c5 c6 q2 q3
  go_loopw [5, 6] (fun v5 v6 wr => ∃ (k : Nat) (s : ByteArray), v6 = .int .i64 k ∧ v5 = .string s ∧ k ≤ L.length ∧ Aside0 (s = txtP (L.take k)) ∧ Aside0 (Below W.heap.size W wr)) (fun _ v6 _ => L.length - (intOf v6).toNat)
  case atStart => exact ⟨0, _, rfl, rfl, by omega, ⟨rfl⟩, ⟨pw_below_drewN (Below.refl _ _) _⟩⟩
  case round =>
    obtain ⟨k, s, rfl, rfl, hk, HS, HB⟩ := hrel
    by_cases hlt : k < L.length
    · have q1 : decide ((k : Int) < (L.length : Int)) = true := decide_eq_true (by omega)
      have u1 : IntKind.i64.wrap ((k : Int) + 1) = (k : Int) + 1 := IntWalk.i64_in _ ⟨by omega, by omega⟩
      obtain ⟨ad, hAa, e1⟩ := atRaw1 (i := k) (u := .string (strOfNums L[k])) HC.out (by unfold strsR; rw [List.getElem?_map, List.getElem?_eq_getElem hlt]; rfl)
      subst hAa
      replace e1 := pw_cell_below HB.out e1
      obtain ⟨pb, hpb⟩ : ∃ pb, pb = L[k] := ⟨_, rfl⟩
      have hpl : pb.length ≤ 1000 := by rw [hpb]; exact HP.out _ (List.getElem_mem hlt)
      have HPY := Aside0.mk (show Byt pb by rw [hpb]; exact HBY.out _ (List.getElem_mem hlt))
      have HT := Aside0.mk (txtP_take hlt)
      rw [← hpb] at e1 HT
      obtain ⟨t, ht⟩ : ∃ t, t = strOfNums pb := ⟨_, rfl⟩
      obtain ⟨fr, hfr⟩ : ∃ fr, fr = strOfNums (frameR (1, pb)) := ⟨_, rfl⟩
      have htz : t.size = pb.length := by rw [ht, strOfNums_size]
      obtain ⟨a, haa⟩ : ∃ a, a = s.size := ⟨_, rfl⟩
      have hsz : s.size = a := haa.symm
      have hfz : fr.size = pb.length + 9 := by rw [hfr, strOfNums_size, frameR_len]
      have hal : a ≤ 5045 := by rw [haa, HS.out]; have := HSZ.out k; omega
      obtain ⟨n, hn⟩ : ∃ n, n = pb.length := ⟨_, rfl⟩
      obtain ⟨n9, hn9⟩ : ∃ n9, n9 = pb.length + 9 := ⟨_, rfl⟩
      rw [← hn9] at hfz
      have q4 : decide ((60000 : Int) < (n : Int)) = false := decide_eq_false (by omega)
      have q5 : ¬ 9223372036854775807 < a + n9 := by omega
      rw [← hn] at htz
      have HTX := Aside0.mk ht
      have HFR := Aside0.mk hfr
      have GOK := Aside0.mk (show okR (1, pb) from ⟨(by omega : (1 : Int) ≤ 1), (by omega : (1 : Int) ≤ 255), (by omega : pb.length ≤ 60000)⟩)
      have HT2 := Aside0.mk (show s ++ fr = txtP (L.take (k + 1)) by rw [HT.out, HS.out, hfr])
      rw [← ht] at e1
      clear hpb ht hfr haa hn hn9 hpl
      go_wp2_with (go_at_call 35; go_must (refine (RefWrite_eq 1 pb t fr _ HTX.out HFR.out GOK.out HPY.out).mono ?_; rintro e w1 ⟨rfl, hb⟩; have HB1 := Aside0.mk (below_step HB.out hb); clear hb))
      go_roundw
      case rel => exact ⟨k + 1, s ++ fr, by go_num, rfl, by omega, HT2, HB1⟩
      case measure => simp [intOf]; omega
    · have q1 : decide ((k : Int) < (L.length : Int)) = false := decide_eq_false (by omega)
      obtain rfl : k = L.length := by omega
      rw [List.take_length] at HS
      have HJ := Aside0.mk (show RlH w wr gr gx x sp d va vt (RawT 1 9 (.slice A L.length c) (strsR L) :: Ps) from HH.out.then_ HB.out)
      obtain ⟨k0, _, _, _, _, _, _, _⟩ := rl_cells HJ.out
      obtain ⟨a, haa⟩ : ∃ a, a = s.size := ⟨_, rfl⟩
      have hsz : s.size = a := haa.symm
      have HA := Aside0.mk (show (framesOf (recsOf 1 L)).length = a by rw [HFL.out, haa, HS.out])
      clear haa
      by_cases hf : z < a
      · have q4 : decide ((z : Int) < (a : Int)) = true := decide_eq_true (by omega)
        go_wp2_with (go_at_call 78; go_must (refine (RefSize_eq (rl_disk HJ.out) z HZ.out (by omega) hhi).mono ?_; rintro e w3 ⟨rfl, rfl⟩))
        go_ret
        rw [HA.out, ← HZ.out]
        exact ⟨fun _ => ⟨rfl, HJ.out⟩, fun h => absurd hf h⟩
      · have q4 : decide ((z : Int) < (a : Int)) = false := decide_eq_false (by omega)
        have f6 := rl_frozen HJ.out 6
        have f7 := rl_frozen HJ.out 7
        have k6 := (rl_cells HJ.out).2.2.2.2.2.2.1
        have k7 := (rl_cells HJ.out).2.2.2.2.2.2.2
        go_wp2_with (go_at_call 78; go_must (refine (RefSize_eq (rl_disk HJ.out) z HZ.out (by omega) hhi).mono ?_; rintro e w3 ⟨rfl, rfl⟩))
        go_ret
        rw [HA.out, ← HZ.out]
        have hy := (HJ.out.putCell 7 (.string s)).putCell 6 (.int .i64 1)
        rw [HS.out] at hy
        refine ⟨fun h => absurd h hf, fun _ => ⟨rfl, ?_⟩⟩
        rw [HS.out]
        exact hy
theorem RlBegin_any (A : Option Addr) (c : Nat) (L : List (List Int)) (h : RlH w W gr gx x sp d va vt (RawT 1 9 (.slice A L.length c) (strsR L) :: Ps)) (ho : d.Ok) (hL : L.length ≤ 5) (hp : ∀ p ∈ L, p.length ≤ 1000) (hB : ∀ p ∈ L, Byt p) :
    Calls Try.prog 87 #[.pointer (some ⟨gr, 0, none⟩), .slice A L.length c] W fun e W' => e = .returned (.int .i64 (begE x d L)) ∧ ∃ sp', (begE x d L = 0 → sp' = txtP L) ∧ (begE x d L ≠ 0 → sp' = sp) ∧ RlH w W' gr gx (begL x d L) sp' d va vt (RawT 1 9 (.slice A L.length c) (strsR L) :: Ps) := by
  unfold begL begE
  by_cases hb : x.stage ≠ 0 ∨ x.sure < x.all
  · rw [if_pos hb, if_neg (by decide)]
    refine (RlBegin_busy h A L.length c hb).mono ?_
    rintro e W' ⟨rfl, h⟩
    exact ⟨rfl, sp, fun h => absurd h (by decide), fun _ => rfl, h⟩
  · rw [if_neg hb]
    refine (RlBegin_go A c L h ho hL hp hB (by omega) (by omega)).mono ?_
    rintro e W' ⟨h1, h2⟩
    by_cases hf : Sz d < (framesOf (recsOf 1 L)).length
    · obtain ⟨rfl, h⟩ := h1 hf
      rw [if_pos hf, if_neg (by decide)]
      exact ⟨rfl, sp, fun h => absurd h (by decide), fun _ => rfl, h⟩
    · obtain ⟨rfl, h⟩ := h2 hf
      rw [if_neg hf, if_pos rfl]
      exact ⟨rfl, txtP L, fun _ => rfl, fun h => absurd rfl h, h⟩
end
end Go.Proofs.Ytmbemlpmfklddaa.Own
