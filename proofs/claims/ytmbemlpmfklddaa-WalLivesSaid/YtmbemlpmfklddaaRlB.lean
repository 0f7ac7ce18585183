/- The reference's log: Append. -/
import Derived.Test.YtmbemlpmfklddaaRlA
import Derived.Deep.RegionHeld3
namespace Go.Proofs.Ytmbemlpmfklddaa.Own
open Go.RowKit Go.Proofs.YtmbemlpmfklddaaW.PrintWords Go.Proofs.YtmbemlpmfklddaaW.PrintLast Go.Proofs.YtmbemlpmfklddaaW.PrintMore
section
variable {w W : World} {Ps : List Thing} {gr gx : Nat} {x : Lg} {sp : ByteArray} {d : Dm} {va vt : Value}
set_option maxHeartbeats 2000000 in
set_option maxRecDepth 100000 in
theorem RlAppend_form (h : RlH w W gr gx x sp d va vt Ps) (b : List Int) (s : ByteArray) (hs : s = strOfNums b) (hl : b.length ≤ 300000) (hb : b.length = 0 ∨ 1800 < b.length) :
    Calls Try.prog 85 #[.pointer (some ⟨gr, 0, none⟩), .string s] W fun e W' => e = .returned (.tuple #[.int .i64 0, .int .i64 3]) ∧ RlH w W' gr gx x sp d va vt Ps := by
  have HH := Aside0.mk h
  obtain ⟨n, hn⟩ : ∃ n, n = b.length := ⟨_, rfl⟩
  have hz : s.size = n := by rw [hs, strOfNums_size, hn]
  rw [← hn] at hl hb
  clear h hs hn
  by_cases c1 : n < 1
  · have q1 : decide ((n : Int) < 1) = true := decide_eq_true (by omega)
    clear hb
    go_enter Try.func85, Try.ntmps85
    go_wp2_with fail
    go_ret2
    exact ⟨rfl, HH.out⟩
  · have q1 : decide ((n : Int) < 1) = false := decide_eq_false (by omega)
    have q2 : decide ((1800 : Int) < (n : Int)) = true := decide_eq_true (by omega)
    clear hb
    go_enter Try.func85, Try.ntmps85
    go_wp2_with fail
    go_ret2
    exact ⟨rfl, HH.out⟩
set_option maxHeartbeats 2000000 in
set_option maxRecDepth 100000 in
theorem RlAppend_busy (h : RlH w W gr gx x sp d va vt Ps) (b : List Int) (s : ByteArray) (hs : s = strOfNums b) (hb : b.length ≠ 0 ∧ b.length ≤ 1800) (hst : x.stage ≠ 0) :
    Calls Try.prog 85 #[.pointer (some ⟨gr, 0, none⟩), .string s] W fun e W' => e = .returned (.tuple #[.int .i64 0, .int .i64 15]) ∧ RlH w W' gr gx x sp d va vt Ps := by
  have HH := Aside0.mk h
  obtain ⟨_, _, _, _, _, _, c6, _⟩ := rl_cells h
  obtain ⟨n, hn⟩ : ∃ n, n = b.length := ⟨_, rfl⟩
  have hz : s.size = n := by rw [hs, strOfNums_size, hn]
  rw [← hn] at hb
  have q1 : decide ((n : Int) < 1) = false := decide_eq_false (by omega)
  have q2 : decide ((1800 : Int) < (n : Int)) = false := decide_eq_false (by omega)
  obtain ⟨st, hst2⟩ : ∃ st, st = x.stage := ⟨_, rfl⟩
  rw [← hst2] at hst c6
  have q3 : decide ((0 : Int) < (st : Int)) = true := decide_eq_true (by omega)
  have q4 : 0 < st := by omega
  clear h hs hn hst2 hst
  go_enter Try.func85, Try.ntmps85
  go_wp2_with fail
  go_ret2
  exact ⟨rfl, HH.out⟩
set_option maxHeartbeats 2000000 in
set_option maxRecDepth 100000 in
theorem RlAppend_full (h : RlH w W gr gx x sp d va vt Ps) (ho : d.Ok) (ht : x.tail ≤ Sz d) (b : List Int) (s : ByteArray) (hs : s = strOfNums b) (hb : b.length ≠ 0 ∧ b.length ≤ 1800) (hst : x.stage = 0) (hf : Sz d < x.tail + b.length + 9) :
    Calls Try.prog 85 #[.pointer (some ⟨gr, 0, none⟩), .string s] W fun e W' => e = .returned (.tuple #[.int .i64 0, .int .i64 5]) ∧ RlH w W' gr gx x sp d va vt Ps := by
  have HH := Aside0.mk h
  have HO := Aside0.mk ho
  have HT := Aside0.mk ht
  obtain ⟨_, _, _, _, _, _, c6, _⟩ := rl_cells h
  rw [hst] at c6
  obtain ⟨n, hn⟩ : ∃ n, n = b.length := ⟨_, rfl⟩
  have hz : s.size = n := by rw [hs, strOfNums_size, hn]
  rw [← hn] at hb hf
  have q1 : decide ((n : Int) < 1) = false := decide_eq_false (by omega)
  have q2 : decide ((1800 : Int) < (n : Int)) = false := decide_eq_false (by omega)
  obtain ⟨rm, hrm⟩ : ∃ rm, rm = Sz d - x.tail := ⟨_, rfl⟩
  have HRM := Aside0.mk hrm
  have q3 : decide ((rm : Int) < (n : Int) + 9) = true := decide_eq_true (by omega)
  have q4 : (rm : Int) < (n : Int) + 9 := by omega
  clear h ho ht hs hn hrm hst hf
  go_enter Try.func85, Try.ntmps85
  go_wp2_with (go_at_call 90; go_must (refine (RlRoom HH.out HO.out HT.out).mono ?_; rw [← HRM.out]; rintro e w1 ⟨rfl, h⟩; have HI := Aside0.mk h; clear h))
  go_ret2
  exact ⟨rfl, HI.out⟩
theorem rl_three {Qs : List Thing} (h : Here w W (CellsT gr (rlC gx x sp) 101 :: Qs)) : W.cell? ⟨gr, 0, none⟩ = some (.pointer (some ⟨gx, 0, none⟩)) ∧ W.cell? ⟨gr, 2, none⟩ = some (.int .i64 x.area) ∧ W.cell? ⟨gr, 3, none⟩ = some (.int .i64 x.tail) :=
  ⟨(rl_cells h).1, (rl_cells h).2.2.1, (rl_cells h).2.2.2.1⟩
set_option maxHeartbeats 4000000 in
set_option maxRecDepth 100000 in
theorem RlAppend_yes (h : RlH w W gr gx x sp d va vt Ps) (ho : d.Ok) (hq : d.q.length ≤ 999000) (b : List Int) (hby : Byt b) (s : ByteArray) (hs : s = strOfNums b) (hb : b.length ≠ 0 ∧ b.length ≤ 1800) (hst : x.stage = 0) (hf : x.tail + b.length + 9 ≤ Sz d) (ha : x.area ≤ 1) (hal : x.all ≤ 1000000) :
    Calls Try.prog 85 #[.pointer (some ⟨gr, 0, none⟩), .string s] W fun e W' => e = .returned (.tuple #[.int .i64 ((x.all + 1 : Nat) : Int), .int .i64 0]) ∧
      ∃ va' vt', RlH w W' gr gx { x with tail := x.tail + b.length + 9, all := x.all + 1 } sp (d.write (plc d x.area x.tail) (frameR (2, b))) va' vt' Ps := by
  have HH := Aside0.mk h
  have HO := Aside0.mk ho
  have hlo := ho.lo
  have hhi := ho.hi
  have HBY := Aside0.mk hby
  obtain ⟨c0, _, c2, c3, c4, _, c6, _⟩ := rl_cells h
  rw [hst] at c6
  have gok : okR (2, b) := ⟨(by omega : (1 : Int) ≤ 2), (by omega : (2 : Int) ≤ 255), (by omega : b.length ≤ 60000)⟩
  have GOK := Aside0.mk gok
  obtain ⟨n, hn⟩ : ∃ n, n = b.length := ⟨_, rfl⟩
  have HN := Aside0.mk hn
  have hz : s.size = n := by rw [hs, strOfNums_size, hn]
  have HS := Aside0.mk hs
  rw [← hn] at hb hf
  have q1 : decide ((n : Int) < 1) = false := decide_eq_false (by omega)
  have q2 : decide ((1800 : Int) < (n : Int)) = false := decide_eq_false (by omega)
  obtain ⟨z, hzz⟩ : ∃ z, z = Sz d := ⟨_, rfl⟩
  have HZ := Aside0.mk hzz
  have hz2 : 2 * z + 32 ≤ d.b.length := by rw [hzz]; unfold Sz; omega
  rw [← hzz] at hf
  have HT := Aside0.mk (show x.tail ≤ Sz d by omega)
  obtain ⟨rm, hrm⟩ : ∃ rm, rm = Sz d - x.tail := ⟨_, rfl⟩
  have HRM := Aside0.mk hrm
  have q3 : decide ((rm : Int) < (n : Int) + 9) = false := decide_eq_false (by omega)
  have q4 : ¬ (rm : Int) < (n : Int) + 9 := by omega
  obtain ⟨fr, hfr⟩ : ∃ fr, fr = strOfNums (frameR (2, b)) := ⟨_, rfl⟩
  have HFR := Aside0.mk hfr
  obtain ⟨p, hp⟩ : ∃ p, p = plc d x.area x.tail := ⟨_, rfl⟩
  have HP := Aside0.mk hp
  have hpm : p = 32 + x.area * z + x.tail := by rw [hp, hzz]; rfl
  have hm : x.area * z ≤ 131072 := Nat.le_trans (Nat.mul_le_mul_right z ha) (by omega)
  have haz : x.area * z ≤ 1 * z := Nat.mul_le_mul_right _ ha
  obtain ⟨m, hmm⟩ : ∃ m, m = x.area * z := ⟨_, rfl⟩
  rw [← hmm] at hm hpm haz
  have HF := Aside0.mk (show d.fits (p : Nat) (frameR (2, b)).length by
    rw [frameR_len]
    unfold Dm.fits
    simp only
    omega)
  have u1 : IntKind.i64.wrap ((x.area : Int) * (z : Int)) = (m : Int) := by
    rw [hmm, ← Int.natCast_mul]
    exact IntWalk.i64_in _ ⟨by omega, by omega⟩
  have u2 : IntKind.i64.wrap (32 + (m : Int)) = 32 + (m : Int) := IntWalk.i64_in _ ⟨by omega, by omega⟩
  have u3 : IntKind.i64.wrap (32 + (m : Int) + (x.tail : Int)) = 32 + (m : Int) + (x.tail : Int) := IntWalk.i64_in _ ⟨by omega, by omega⟩
  have HPM := Aside0.mk (show 32 + (m : Int) + (x.tail : Int) = ((p : Nat) : Int) by omega)
  obtain ⟨tn, htn⟩ : ∃ tn, tn = x.tail + n := ⟨_, rfl⟩
  obtain ⟨nt, hnt⟩ : ∃ nt, nt = x.tail + n + 9 := ⟨_, rfl⟩
  have HNT := Aside0.mk hnt
  have U4 := Aside0.mk (show IntKind.i64.wrap ((x.tail : Int) + (n : Int)) = (tn : Int) by
    rw [htn, show (x.tail : Int) + (n : Int) = ((x.tail + n : Nat) : Int) by omega]
    exact IntWalk.i64_in _ ⟨by omega, by omega⟩)
  have U5 := Aside0.mk (show IntKind.i64.wrap ((tn : Int) + 9) = (nt : Int) by
    rw [hnt, show (tn : Int) + 9 = ((x.tail + n + 9 : Nat) : Int) by omega]
    exact IntWalk.i64_in _ ⟨by omega, by omega⟩)
  have U6 := Aside0.mk (show IntKind.i64.wrap ((x.all : Int) + 1) = (x.all : Int) + 1 from IntWalk.i64_in _ ⟨by omega, by omega⟩)
  clear h ho hs hn hrm hst hf hby gok hzz hfr hp hpm hmm htn hnt c2
  go_enter Try.func85, Try.ntmps85
  go_wp2_with (go_at_call 90; go_must (refine (RlRoom HH.out HO.out HT.out).mono ?_; rw [← HRM.out]; rintro e w1 ⟨rfl, h⟩; have HI := Aside0.mk h; clear h HH c0 c3 c4 c6))
  clear q1 q2 q3 q4 hal hb
  go_region_held3 (fun w' => w'.cell? ⟨gr, 0, none⟩ = some (.pointer (some ⟨gx, 0, none⟩)) ∧ w'.cell? ⟨gr, 2, none⟩ = some (.int .i64 x.area) ∧ w'.cell? ⟨gr, 3, none⟩ = some (.int .i64 x.tail))
    (first
      | exact rl_three HK.out
      | exact rl_three HJ.out
      | exact rl_three HI.out
      | exact rl_three HI.out.drew)
    (first
      | (go_at_call 78; go_must (refine (RefSize (rl_disk HI.out.drew) (by omega) hhi).mono ?_; rw [← HZ.out]; rintro e w2 ⟨rfl, rfl⟩))
      | (go_at_call 35; go_must (refine (RefWrite_eq 2 b s fr _ HS.out HFR.out GOK.out HBY.out).mono ?_; rintro e w3 ⟨rfl, hb⟩; have HJ := Aside0.mk (HI.out.drew.then_ hb : RlH w w3 gr gx x sp d va vt Ps); clear hb))
      | (go_at_call 38; go_must (refine (RefWrite_int (rl_disk HJ.out) HO.out (by omega) _ (p : Nat) (frameR (2, b)) fr HPM.out HFR.out HF.out).mono ?_; rintro e w4 ⟨rfl, va', vt', h⟩; have HK := Aside0.mk (rl_back h); clear h)))
  all_goals
    clear u1 u2 u3 HI HJ
    obtain ⟨_, _, _, d3, d4, _, _, _⟩ := rl_cells HK.out
    have f3 := rl_frozen HK.out 3
    have f4 := rl_frozen HK.out 4
    have u4 := U4.out
    have u5 := U5.out
    have u6 := U6.out
    go_wp2_with fail
    go_region
  all_goals
    go_wp2_with fail
    go_ret2
    have hy := (HK.out.putCell 3 (.int .i64 nt)).putCell 4 (.int .i64 ((x.all : Int) + 1))
    refine ⟨rfl, va', vt', ?_⟩
    rw [← HN.out, ← HNT.out, ← HP.out]
    exact hy.drew
theorem RlAppend_any (h : RlH w W gr gx x sp d va vt Ps) (ho : d.Ok) (hq : d.q.length ≤ 999000) (b : List Int) (hby : Byt b) (s : ByteArray) (hs : s = strOfNums b) (hl : b.length ≤ 300000) (ht : x.tail ≤ Sz d) (ha : x.area ≤ 1) (hal : x.all ≤ 1000000) :
    Calls Try.prog 85 #[.pointer (some ⟨gr, 0, none⟩), .string s] W fun e W' => e = .returned (.tuple #[.int .i64 (appE x d b).1, .int .i64 (appE x d b).2]) ∧ ∃ va' vt', RlH w W' gr gx (appL x d b) sp (appD x d b) va' vt' Ps := by
  rcases appE_cases x d b with ⟨h1, he⟩ | ⟨h1, h2, he⟩ | ⟨h1, h2, h3, he⟩ | ⟨h1, h2, h3, he⟩
  · unfold appL appD
    rw [he, if_neg (by decide), if_neg (by decide)]
    refine (RlAppend_form h b s hs hl h1).mono ?_
    rintro e W' ⟨rfl, h⟩
    exact ⟨rfl, va, vt, h⟩
  · unfold appL appD
    rw [he, if_neg (by decide), if_neg (by decide)]
    refine (RlAppend_busy h b s hs h1 h2).mono ?_
    rintro e W' ⟨rfl, h⟩
    exact ⟨rfl, va, vt, h⟩
  · unfold appL appD
    rw [he, if_neg (by decide), if_neg (by decide)]
    refine (RlAppend_full h ho ht b s hs h1 h2 h3).mono ?_
    rintro e W' ⟨rfl, h⟩
    exact ⟨rfl, va, vt, h⟩
  · unfold appL appD
    rw [he, if_pos rfl, if_pos rfl]
    exact RlAppend_yes h ho hq b hby s hs h1 h2 h3 ha hal
end
end Go.Proofs.Ytmbemlpmfklddaa.Own
