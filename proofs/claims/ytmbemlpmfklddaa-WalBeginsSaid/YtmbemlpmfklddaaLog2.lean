/- Append. Append, where it finds room. framed, Begin. Append, in one: what it answers, and what comes of the log and of the disk. Begin while a change goes on. -/
import Derived.Test.YtmbemlpmfklddaaLog1
import Derived.Deep.RegionWith
import Derived.Deep.RegionHeld3
namespace Go.Proofs.Ytmbemlpmfklddaa.Own
open Go.RowKit Go.Proofs.YtmbemlpmfklddaaW.PrintWords Go.Proofs.YtmbemlpmfklddaaW.PrintLast Go.Proofs.YtmbemlpmfklddaaW.PrintMore
section
variable {w W : World} {Ps : List Thing} {g gl : Nat} {d : Dm} {x : Lg} {vp : Value}
set_option maxHeartbeats 1000000 in
set_option maxRecDepth 100000 in
theorem Append_form (h : Here w W (LogT gl g x vp :: DiskT g d :: Ps)) (A : Option Addr) (c : Nat) (b : List Int) (hC : (Kd.int .u8).C W A b.length b) (hc : b.length ≤ c) (hb : b.length = 0 ∨ 1800 < b.length) :
    Calls Try.prog 46 #[.pointer (some ⟨gl, 0, none⟩), .slice A b.length c] W fun e W' => e = .returned (.tuple #[.int .i64 0, .int .i64 3]) ∧ Here w W' (LogT gl g x vp :: DiskT g d :: Ps) := by
  have HH := Aside0.mk h
  have HC := Aside0.mk hC
  clear h hC
  by_cases gok : okR (2, b)
  · by_cases g0 : b.length = 0
    · obtain rfl : b = [] := List.eq_nil_of_length_eq_zero g0
      clear g0 hb
      go_enter Try.func46, Try.ntmps46
      go_wp2_with (first
        | (go_at_call 28; go_must (refine (WriteF_here HH.out (2, []) A c HC.out hc gok).mono ?_; rintro e w1 ⟨v, rfl, h⟩; have HW := Aside0.mk h; clear h HH))
        | (go_at_call 82; go_must (refine (made_here HW.out.drop).mono ?_; rintro e w2 ⟨rfl, rfl⟩)))
      go_ret2
      exact ⟨rfl, HW.out.drop⟩
    · have q1 : ((b.length : Int) == 0) = false := beq_eq_false_iff_ne.mpr (by omega)
      have q2 : decide ((1800 : Int) < (b.length : Int)) = true := decide_eq_true (by omega)
      have q3 : b.length ≠ 0 := g0
      go_enter Try.func46, Try.ntmps46
      go_wp2_with (first
        | (go_at_call 28; go_must (refine (WriteF_here HH.out (2, b) A c HC.out hc gok).mono ?_; rintro e w1 ⟨v, rfl, h⟩; have HW := Aside0.mk h; clear h HH))
        | (go_at_call 82; go_must (refine (made_here HW.out.drop).mono ?_; rintro e w2 ⟨rfl, rfl⟩)))
      go_ret2
      exact ⟨rfl, HW.out.drop⟩
  · go_enter Try.func46, Try.ntmps46
    go_wp2_with (first
      | (go_at_call 28; go_must (refine (Write_bad (2, b) A c _ HC.out hc gok).mono ?_; rintro e w1 ⟨rfl, h⟩; have HW := Aside0.mk (HH.out.then_ h); clear h HH))
      | (go_at_call 82; go_must (refine (made_here HW.out).mono ?_; rintro e w2 ⟨rfl, rfl⟩)))
    go_ret2
    exact ⟨rfl, HW.out⟩
set_option maxHeartbeats 1000000 in
set_option maxRecDepth 100000 in
theorem Append_busy (h : Here w W (LogT gl g x vp :: DiskT g d :: Ps)) (A : Option Addr) (c : Nat) (b : List Int) (hC : (Kd.int .u8).C W A b.length b) (hc : b.length ≤ c) (hb : b.length ≠ 0 ∧ b.length ≤ 1800) (hs : x.stage ≠ 0) :
    Calls Try.prog 46 #[.pointer (some ⟨gl, 0, none⟩), .slice A b.length c] W fun e W' => e = .returned (.tuple #[.int .i64 0, .int .i64 15]) ∧ Here w W' (LogT gl g x vp :: DiskT g d :: Ps) := by
  have HH := Aside0.mk h
  have HC := Aside0.mk hC
  have gok : okR (2, b) := ⟨(by omega : (1 : Int) ≤ 2), (by omega : (2 : Int) ≤ 255), (by omega : b.length ≤ 60000)⟩
  have q1 : ((b.length : Int) == 0) = false := beq_eq_false_iff_ne.mpr (by omega)
  have q2 : decide ((1800 : Int) < (b.length : Int)) = false := decide_eq_false (by omega)
  have q3 : b.length ≠ 0 := hb.1
  have q4 : ((x.stage : Int) != 0) = true := bne_iff_ne.mpr (by omega)
  clear h hC
  go_enter Try.func46, Try.ntmps46
  go_wp2_with (first
    | (go_at_call 28; go_must (refine (WriteF_here HH.out (2, b) A c HC.out hc gok).mono ?_; rintro e w1 ⟨v, rfl, h⟩; have HW := Aside0.mk h; obtain ⟨c0, c1, c2, c3, c4, c5, c6, c7⟩ := lg_cells h.drop; clear h HH))
    | (go_at_call 82; go_must (refine (made_here HW.out.drop).mono ?_; rintro e w2 ⟨rfl, rfl⟩)))
  go_ret2
  exact ⟨rfl, HW.out.drop⟩
set_option maxHeartbeats 1000000 in
set_option maxRecDepth 100000 in
theorem Append_full (h : Here w W (LogT gl g x vp :: DiskT g d :: Ps)) (A : Option Addr) (c : Nat) (b : List Int) (hC : (Kd.int .u8).C W A b.length b) (hc : b.length ≤ c) (hb : b.length ≠ 0 ∧ b.length ≤ 1800) (hs : x.stage = 0) (ht : x.tail ≤ Sz d) (hf : Sz d < x.tail + b.length + 9) :
    Calls Try.prog 46 #[.pointer (some ⟨gl, 0, none⟩), .slice A b.length c] W fun e W' => e = .returned (.tuple #[.int .i64 0, .int .i64 5]) ∧ Here w W' (LogT gl g x vp :: DiskT g d :: Ps) := by
  have HH := Aside0.mk h
  have HC := Aside0.mk hC
  have gok : okR (2, b) := ⟨(by omega : (1 : Int) ≤ 2), (by omega : (2 : Int) ≤ 255), (by omega : b.length ≤ 60000)⟩
  have q1 : ((b.length : Int) == 0) = false := beq_eq_false_iff_ne.mpr (by omega)
  have q2 : decide ((1800 : Int) < (b.length : Int)) = false := decide_eq_false (by omega)
  have q3 : b.length ≠ 0 := hb.1
  have q4 : ((x.stage : Int) != 0) = false := by rw [hs]; rfl
  have q5 : x.stage = 0 := hs
  obtain ⟨fr, hfr⟩ : ∃ fr, fr = frameR (2, b) := ⟨_, rfl⟩
  have HFR := Aside0.mk hfr
  obtain ⟨rm, hrm⟩ : ∃ rm, rm = Sz d - x.tail := ⟨_, rfl⟩
  have HRM := Aside0.mk hrm
  have hfl : fr.length = b.length + 9 := by rw [hfr, frameR_len]
  have q6 : decide ((rm : Int) < (fr.length : Int)) = true := decide_eq_true (by omega)
  have q7 : rm < fr.length := by omega
  have HT := Aside0.mk ht
  clear h hC hfl hrm hfr ht hf
  go_enter Try.func46, Try.ntmps46
  go_wp2_with (first
    | (go_at_call 28; go_must (refine (WriteF_here HH.out (2, b) A c HC.out hc gok).mono ?_; rw [← HFR.out]; rintro e w1 ⟨v, rfl, h⟩; obtain ⟨A6, c6, rfl, k6, _⟩ := h.bytes.slice; have HW := Aside0.mk h; obtain ⟨c0, c1, c2, c3, c4, c5, c6, c7⟩ := lg_cells h.drop; clear h HH))
    | (go_at_call 82; go_must (refine (made_here HW.out.drop).mono ?_; rintro e w2 ⟨rfl, rfl⟩))
    | (go_at_call 53; go_must (refine (Room_here HW.out.drop HT.out).mono ?_; rw [← HRM.out]; rintro e w3 ⟨rfl, h⟩; have HZ := Aside0.mk h; clear h)))
  go_ret2
  exact ⟨rfl, HZ.out⟩
end
end Go.Proofs.Ytmbemlpmfklddaa.Own
namespace Go.Proofs.Ytmbemlpmfklddaa.Own
open Go.RowKit Go.Proofs.YtmbemlpmfklddaaW.PrintWords Go.Proofs.YtmbemlpmfklddaaW.PrintLast Go.Proofs.YtmbemlpmfklddaaW.PrintMore
section
variable {w W : World} {Ps : List Thing} {g gl : Nat} {d : Dm} {x : Lg} {vp : Value}
theorem lg_three (h : Here w W (LogT gl g x vp :: Ps)) : W.cell? ⟨gl, 0, none⟩ = some (.pointer (some ⟨g, 0, none⟩)) ∧ W.cell? ⟨gl, 2, none⟩ = some (.int .i64 x.area) ∧ W.cell? ⟨gl, 3, none⟩ = some (.int .i64 x.tail) :=
  ⟨(lg_cells h).1, (lg_cells h).2.2.1, (lg_cells h).2.2.2.1⟩
set_option maxHeartbeats 4000000 in
set_option maxRecDepth 100000 in
theorem Append_yes (h : Here w W (LogT gl g x vp :: DiskT g d :: Ps)) (hq : d.q.length ≤ 1000000) (A : Option Addr) (c : Nat) (b : List Int) (hC : (Kd.int .u8).C W A b.length b) (hc : b.length ≤ c) (hb : b.length ≠ 0 ∧ b.length ≤ 1800) (hs : x.stage = 0) (hf : x.tail + b.length + 9 ≤ Sz d) (ha : x.area ≤ 1) (hal : x.all ≤ 1000000) :
    Calls Try.prog 46 #[.pointer (some ⟨gl, 0, none⟩), .slice A b.length c] W fun e W' => e = .returned (.tuple #[.int .i64 ((x.all + 1 : Nat) : Int), .int .i64 0]) ∧
      Here w W' (LogT gl g { x with tail := x.tail + b.length + 9, all := x.all + 1 } vp :: DiskT g (d.write (plc d x.area x.tail) (frameR (2, b))) :: Ps) := by
  have HH := Aside0.mk h
  have HC := Aside0.mk hC
  have hd := h.swap.diskOk
  have h2 := hd.hi
  have hz2 : 2 * Sz d + 32 ≤ d.b.length := by unfold Sz; have := hd.lo; omega
  have gok : okR (2, b) := ⟨(by omega : (1 : Int) ≤ 2), (by omega : (2 : Int) ≤ 255), (by omega : b.length ≤ 60000)⟩
  have q1 : ((b.length : Int) == 0) = false := beq_eq_false_iff_ne.mpr (by omega)
  have q2 : decide ((1800 : Int) < (b.length : Int)) = false := decide_eq_false (by omega)
  have q3 : b.length ≠ 0 := hb.1
  have q4 : ((x.stage : Int) != 0) = false := by rw [hs]; rfl
  have q5 : x.stage = 0 := hs
  obtain ⟨fr, hfr⟩ : ∃ fr, fr = frameR (2, b) := ⟨_, rfl⟩
  have HFR := Aside0.mk hfr
  obtain ⟨rm, hrm⟩ : ∃ rm, rm = Sz d - x.tail := ⟨_, rfl⟩
  have HRM := Aside0.mk hrm
  have hfl : fr.length = b.length + 9 := by rw [hfr, frameR_len]
  have HFL := Aside0.mk hfl
  have q6 : decide ((rm : Int) < (fr.length : Int)) = false := decide_eq_false (by omega)
  have q7 : ¬ rm < fr.length := by omega
  have HT := Aside0.mk (show x.tail ≤ Sz d by omega)
  have ht2 : x.tail ≤ 262144 := by omega
  obtain ⟨p, hp⟩ : ∃ p, p = plc d x.area x.tail := ⟨_, rfl⟩
  have HP := Aside0.mk hp
  have HF := Aside0.mk (show d.fits p fr.length by
    rw [hp, hfl]
    unfold plc Dm.fits
    have : x.area * Sz d ≤ 1 * Sz d := Nat.mul_le_mul_right _ ha
    omega)
  obtain ⟨nt, hnt⟩ : ∃ nt, nt = x.tail + b.length + 9 := ⟨_, rfl⟩
  have u1 : IntKind.i64.wrap ((x.tail : Int) + (fr.length : Int)) = (nt : Int) := by
    rw [hnt, show (x.tail : Int) + (fr.length : Int) = ((x.tail + b.length + 9 : Nat) : Int) by omega]
    exact IntWalk.i64_in _ ⟨by omega, by omega⟩
  have u2 : IntKind.i64.wrap ((x.all : Int) + 1) = (x.all : Int) + 1 := IntWalk.i64_in _ ⟨by omega, by omega⟩
  have HNT := Aside0.mk hnt
  clear h hC hfl hrm hfr hf hd hz2 hp hnt
  go_enter Try.func46, Try.ntmps46
  go_wp2_with (first
    | (go_at_call 28; go_must (refine (WriteF_here HH.out (2, b) A c HC.out hc gok).mono ?_; rw [← HFR.out]; rintro e w1 ⟨v, rfl, h⟩; obtain ⟨A6, cc, rfl, k6, _⟩ := h.bytes.slice; have HW := Aside0.mk h.third.third; obtain ⟨c0, c1, c2, c3, c4, c5, c6, c7⟩ := lg_cells h.drop; clear h HH))
    | (go_at_call 82; go_must (refine (made_here HW.out).mono ?_; rintro e w2 ⟨rfl, rfl⟩))
    | (go_at_call 53; go_must (refine (Room_here HW.out HT.out).mono ?_; rw [← HRM.out]; rintro e w3 ⟨rfl, h⟩; have HZ := Aside0.mk h; clear h HW c0 c1 c2 c3 c4 c5 c6 c7; obtain ⟨c0, c1, c2, c3, c4, c5, c6, c7⟩ := lg_cells HZ.out)))
  have U1 := Aside0.mk u1
  have U2 := Aside0.mk u2
  clear u1 u2 q1 q2 q3 q4 q5 q6 q7 c1 c4 c5 c6 c7 h2 hal hb
  go_region_held3 (fun w' => w'.cell? ⟨gl, 0, none⟩ = some (.pointer (some ⟨g, 0, none⟩)) ∧ w'.cell? ⟨gl, 2, none⟩ = some (.int .i64 x.area) ∧ w'.cell? ⟨gl, 3, none⟩ = some (.int .i64 x.tail))
    (first
      | exact lg_three HY.out
      | exact lg_three HZ.out
      | exact lg_three HZ.out.drew)
    (first
      | (go_at_call 73; go_must (refine (place_here HZ.out.drew.swap x.area x.tail ha ht2).mono ?_; rw [← HP.out]; rintro e w4 ⟨rfl, rfl⟩))
      | (go_at_call 21; go_must (refine (Write_here HZ.out.drew.swap hq p A6 cc fr (bytes_of (Here.nth HZ.out.drew 2 (by simp))) HF.out).mono ?_; rintro e w5 ⟨rfl, h⟩; have HY := Aside0.mk h.swap; clear h)))
  all_goals
    have u1 := U1.out
    have u2 := U2.out
    obtain ⟨d0, d1, d2, d3, d4, d5, d6, d7⟩ := lg_cells HY.out
    have f3 := lg_frozen HY.out 3
    have f4 := lg_frozen HY.out 4
    clear d0 d1 d2 d5 d6 d7
    go_wp2_with fail
    go_ret2
    refine ⟨rfl, ?_⟩
    rw [← HNT.out, ← HP.out, ← HFR.out]
    have hz := (HY.out.putCell 3 (.int .i64 nt)).putCell 4 (.int .i64 ((x.all : Int) + 1))
    exact hz.third.drop
end
end Go.Proofs.Ytmbemlpmfklddaa.Own
namespace Go.Proofs.Ytmbemlpmfklddaa.Own
open Go.RowKit Go.Proofs.YtmbemlpmfklddaaW.PrintWords Go.Proofs.YtmbemlpmfklddaaW.PrintLast Go.Proofs.YtmbemlpmfklddaaW.PrintMore
def recsOf (k : Int) (L : List (List Int)) : List Rec := L.map (fun p => (k, p))
theorem recs_take {k : Int} {L : List (List Int)} {i : Nat} (hi : i < L.length) : recsOf k (L.take (i + 1)) = recsOf k (L.take i) ++ [(k, L[i])] := by
  unfold recsOf
  rw [List.take_add_one, List.getElem?_eq_getElem hi, List.map_append]
  rfl
theorem recs_len (k : Int) (L : List (List Int)) : (recsOf k L).length = L.length := by simp [recsOf]
set_option maxHeartbeats 2000000 in
set_option maxRecDepth 100000 in
theorem framed_calls (A : Option Addr) (c : Nat) (L : List (List Int)) (w : World) (h0 : (Kd.slice 5 (Kd.int .u8)).C w A L.length L) (hL : L.length ≤ 1000) (hp : ∀ p ∈ L, p.length ≤ 60000) :
    Calls Try.prog 83 #[.slice A L.length c] w fun e w' => ∃ v, e = .returned (.tuple #[v, .bool true]) ∧ Here w w' [BytesT v (framesOf (recsOf 1 L))] := by
  have H0 := Aside0.mk h0
  have HP := Aside0.mk hp
  have HH := Aside0.mk (Here.nil w)
  clear h0 hp
  go_enter Try.func83, Try.ntmps83
  go_wp2_with fail
  go_loopw [4, 11] (fun v4 v11 wr => ∃ (k : Nat), k ≤ L.length ∧ v11 = .int .i64 k ∧ Aside0 (Here w wr [BytesT v4 (framesOf (recsOf 1 (L.take k)))])) (fun _ v11 _ => L.length - (intOf v11).toNat)
  case atStart => exact ⟨0, by omega, rfl, ⟨by simpa [recsOf, framesOf] using HH.out.addNil⟩⟩
  case round =>
    obtain ⟨k, hk, rfl, HI⟩ := hrel
    by_cases hlt : k < L.length
    · have q1 : decide ((k : Int) < (L.length : Int)) = true := decide_eq_true (by omega)
      have u1 : IntKind.i64.wrap ((k : Int) + 1) = (k : Int) + 1 := IntWalk.i64_in _ ⟨by omega, by omega⟩
      obtain ⟨ad, A3, c3, rfl, e0, k3, C3⟩ := atRows H0.out k hlt rfl
      replace e0 := pw_cell_below HI.out.below e0
      have HC3 := Aside0.mk C3
      have hpl := HP.out L[k] (List.getElem_mem hlt)
      have HRT := Aside0.mk (recs_take (k := 1) hlt)
      have HFL := Aside0.mk (framesOf_len (n := 60000) (recsOf 1 (L.take k)) (by
        intro r hr
        obtain ⟨p, hp, rfl⟩ := List.mem_map.1 hr
        exact HP.out p (List.mem_of_mem_take hp)))
      have HRL := Aside0.mk (show (recsOf 1 (L.take k)).length ≤ 1000 by rw [recs_len, List.length_take]; omega)
      generalize L[k] = pb at e0 k3 HC3 hpl HRT
      clear C3
      have gok : okR (1, pb) := ⟨(by omega : (1 : Int) ≤ 1), (by omega : (1 : Int) ≤ 255), hpl⟩
      obtain ⟨fr, hfr⟩ : ∃ fr, fr = frameR (1, pb) := ⟨_, rfl⟩
      have HFR := Aside0.mk hfr
      have HFRL := Aside0.mk (show fr.length ≤ 60009 by rw [hfr, frameR_len]; simp only; omega)
      clear hfr
      go_wp2_with (first
        | (go_at_call 28; go_must (refine (WriteF_here HI.out (1, pb) A3 c3 (by exact Kd.C_below HC3.out HI.out.below) k3 gok).mono ?_; rw [← HFR.out]; rintro e w1 ⟨v, rfl, h⟩; obtain ⟨Ab, cb, rfl, kb, _⟩ := h.bytes.slice; have HJ := Aside0.mk h; clear HI h))
        | (at_builtin; go_must (refine app_here HJ.out.swap rfl (.tmp 23) (.tmp 24) rfl fr Ab fr.length cb rfl rfl rfl (by obtain ⟨A, c, e, _, h⟩ := HJ.out.bytes.slice; cases e; exact h) (by have h9 := HFL.out; have h8 := HRL.out; have h7 := HFRL.out; omega) ?_); intro v1 w2 h; have HK := Aside0.mk h.swap.drop; clear HJ h))
      go_roundw
      case rel =>
        refine ⟨k + 1, by omega, by go_num, ⟨?_⟩⟩
        rw [HRT.out, framesOf_append, framesOf_one, ← HFR.out]
        exact HK.out
      case measure => simp [intOf]; omega
    · obtain rfl : k = L.length := by omega
      rw [List.take_length] at HI
      go_wp2_with fail
      go_ret2
      exact ⟨_, rfl, HI.out⟩
theorem Here.joinB {w W W' : World} {Ps : List Thing} {P : Thing} (h : Here w W Ps) (h2 : Here W W' [P]) : Here w W' (P :: Ps) := by
  obtain ⟨S, ⟨S1, S2, h1, _, _, h4⟩, h5, h6⟩ := h2
  exact h.add h1 h6 (fun k hk => (h5 k (h4 k (.inl hk))).1)
section
variable {w W : World} {Ps : List Thing} {g gl : Nat} {d : Dm} {x : Lg} {vp : Value}
theorem lg_456 (h : Here w W (LogT gl g x vp :: Ps)) : W.cell? ⟨gl, 4, none⟩ = some (.int .i64 x.all) ∧ W.cell? ⟨gl, 5, none⟩ = some (.int .i64 x.sure) ∧ W.cell? ⟨gl, 6, none⟩ = some (.int .i64 x.stage) :=
  ⟨(lg_cells h).2.2.2.2.1, (lg_cells h).2.2.2.2.2.1, (lg_cells h).2.2.2.2.2.2.1⟩
set_option maxHeartbeats 2000000 in
set_option maxRecDepth 100000 in
theorem Begin_yes (h : Here w W (LogT gl g x vp :: DiskT g d :: Ps)) (A : Option Addr) (c : Nat) (L : List (List Int)) (h0 : (Kd.slice 5 (Kd.int .u8)).C W A L.length L) (hL : L.length ≤ 1000) (hp : ∀ p ∈ L, p.length ≤ 60000) (hs : x.stage = 0) (hsu : x.all ≤ x.sure) (hf : (framesOf (recsOf 1 L)).length ≤ Sz d) :
    Calls Try.prog 48 #[.pointer (some ⟨gl, 0, none⟩), .slice A L.length c] W fun e W' => ∃ v, e = .returned (.int .i64 0) ∧ Here w W' (LogT gl g { x with stage := 1 } v :: DiskT g d :: BytesT v (framesOf (recsOf 1 L)) :: Ps) := by
  have HH := Aside0.mk h
  have H0 := Aside0.mk h0
  have HP := Aside0.mk hp
  obtain ⟨b, hb⟩ : ∃ b, b = framesOf (recsOf 1 L) := ⟨_, rfl⟩
  have HBB := Aside0.mk hb
  obtain ⟨z, hz⟩ : ∃ z, z = Sz d := ⟨_, rfl⟩
  have HZ := Aside0.mk hz
  have q1 : decide ((x.sure : Int) < (x.all : Int)) = false := decide_eq_false (by omega)
  have q2 : ¬ x.sure < x.all := by omega
  have q3 : ((x.stage : Int) != 0) = false := by rw [hs]; rfl
  have q4 : decide ((z : Int) < (b.length : Int)) = false := decide_eq_false (by rw [hz, hb]; omega)
  have q5 : ¬ z < b.length := by rw [hz, hb]; omega
  have q6 : x.stage = 0 := hs
  clear hf hsu
  clear h h0 hp hb hz
  go_enter Try.func48, Try.ntmps48
  go_wp2_with (first
    | (go_at_call 83; go_must (refine (framed_calls A c L _ H0.out hL HP.out).mono ?_; rw [← HBB.out]; rintro e w1 ⟨v, rfl, h⟩; have HW := Aside0.mk (HH.out.joinB h); obtain ⟨Ab, cb, rfl, kb, _⟩ := HW.out.bytes.slice; clear h HH))
    | (go_at_call 82; go_must (refine (made_here HW.out.swap).mono ?_; rintro e w2 ⟨rfl, rfl⟩)))
  go_region_held3 (fun w' => w'.cell? ⟨gl, 4, none⟩ = some (.int .i64 x.all) ∧ w'.cell? ⟨gl, 5, none⟩ = some (.int .i64 x.sure) ∧ w'.cell? ⟨gl, 6, none⟩ = some (.int .i64 x.stage))
    (first
      | exact lg_456 HW.out.swap
      | exact lg_456 HW.out.swap.drew)
    (first
      | fail)
  all_goals
    obtain ⟨c0, c1, c2, c3, c4, c5, c6, c7⟩ := lg_cells HW.out.swap.drew
    have f7 := lg_frozen HW.out.swap.drew 7
    have f6 := lg_frozen HW.out.swap.drew 6
    have e7 := lg_frozen HW.out.swap 7
    have e6 := lg_frozen HW.out.swap 6
    obtain ⟨b0, b1, b2, b3, b4, b5, b6, b7⟩ := lg_cells HW.out.swap
    clear b1 b2 b3 b4 b5 c1 c2 c3 c4 c5
    have HD := Aside0.mk HW.out.drew
    clear HW
    go_wp2_with (go_at_call 74; go_must (refine (size_here HD.out.third).mono ?_; rw [← HZ.out]; rintro e w3 ⟨rfl, rfl⟩))
    go_ret
    refine ⟨.slice Ab b.length cb, rfl, ?_⟩
    rw [← HBB.out]
    have hy := (HD.out.swap.putCell 7 (.slice Ab b.length cb)).putCell 6 (.int .i64 1)
    exact hy.third.swap
set_option maxHeartbeats 2000000 in
set_option maxRecDepth 100000 in
theorem Begin_full (h : Here w W (LogT gl g x vp :: DiskT g d :: Ps)) (A : Option Addr) (c : Nat) (L : List (List Int)) (h0 : (Kd.slice 5 (Kd.int .u8)).C W A L.length L) (hL : L.length ≤ 1000) (hp : ∀ p ∈ L, p.length ≤ 60000) (hs : x.stage = 0) (hsu : x.all ≤ x.sure) (hf : Sz d < (framesOf (recsOf 1 L)).length) :
    Calls Try.prog 48 #[.pointer (some ⟨gl, 0, none⟩), .slice A L.length c] W fun e W' => e = .returned (.int .i64 5) ∧ Here w W' (LogT gl g x vp :: DiskT g d :: Ps) := by
  have HH := Aside0.mk h
  have H0 := Aside0.mk h0
  have HP := Aside0.mk hp
  obtain ⟨b, hb⟩ : ∃ b, b = framesOf (recsOf 1 L) := ⟨_, rfl⟩
  have HBB := Aside0.mk hb
  obtain ⟨z, hz⟩ : ∃ z, z = Sz d := ⟨_, rfl⟩
  have HZ := Aside0.mk hz
  have q1 : decide ((x.sure : Int) < (x.all : Int)) = false := decide_eq_false (by omega)
  have q2 : ¬ x.sure < x.all := by omega
  have q3 : ((x.stage : Int) != 0) = false := by rw [hs]; rfl
  have q4 : decide ((z : Int) < (b.length : Int)) = true := decide_eq_true (by rw [hz, hb]; omega)
  have q5 : z < b.length := by rw [hz, hb]; omega
  have q6 : x.stage = 0 := hs
  clear hf hsu
  clear h h0 hp hb hz
  go_enter Try.func48, Try.ntmps48
  go_wp2_with (first
    | (go_at_call 83; go_must (refine (framed_calls A c L _ H0.out hL HP.out).mono ?_; rw [← HBB.out]; rintro e w1 ⟨v, rfl, h⟩; have HW := Aside0.mk (HH.out.joinB h); obtain ⟨Ab, cb, rfl, kb, _⟩ := HW.out.bytes.slice; clear h HH))
    | (go_at_call 82; go_must (refine (made_here HW.out.swap).mono ?_; rintro e w2 ⟨rfl, rfl⟩)))
  go_region_held3 (fun w' => w'.cell? ⟨gl, 4, none⟩ = some (.int .i64 x.all) ∧ w'.cell? ⟨gl, 5, none⟩ = some (.int .i64 x.sure) ∧ w'.cell? ⟨gl, 6, none⟩ = some (.int .i64 x.stage))
    (first
      | exact lg_456 HW.out.swap
      | exact lg_456 HW.out.swap.drew)
    (first
      | fail)
  all_goals
    obtain ⟨c0, c1, c2, c3, c4, c5, c6, c7⟩ := lg_cells HW.out.swap.drew
    have f7 := lg_frozen HW.out.swap.drew 7
    have f6 := lg_frozen HW.out.swap.drew 6
    have e7 := lg_frozen HW.out.swap 7
    have e6 := lg_frozen HW.out.swap 6
    obtain ⟨b0, b1, b2, b3, b4, b5, b6, b7⟩ := lg_cells HW.out.swap
    clear b1 b2 b3 b4 b5 c1 c2 c3 c4 c5
    have HD := Aside0.mk HW.out.drew
    clear HW
    go_wp2_with (go_at_call 74; go_must (refine (size_here HD.out.third).mono ?_; rw [← HZ.out]; rintro e w3 ⟨rfl, rfl⟩))
    go_ret
    exact ⟨rfl, HD.out.drop⟩
end
end Go.Proofs.Ytmbemlpmfklddaa.Own
namespace Go.Proofs.Ytmbemlpmfklddaa.Own
open Go.RowKit Go.Proofs.YtmbemlpmfklddaaW.PrintWords Go.Proofs.YtmbemlpmfklddaaW.PrintLast Go.Proofs.YtmbemlpmfklddaaW.PrintMore
/-- What Append answers: its number and its error. -/
def appE (x : Lg) (d : Dm) (b : List Int) : Int × Int :=
  if b.length = 0 ∨ 1800 < b.length then (0, 3) else if x.stage ≠ 0 then (0, 15) else if Sz d < x.tail + b.length + 9 then (0, 5) else (((x.all + 1 : Nat) : Int), 0)
/-- The log behind it. -/
def appL (x : Lg) (d : Dm) (b : List Int) : Lg := if (appE x d b).2 = 0 then { x with tail := x.tail + b.length + 9, all := x.all + 1 } else x
/-- The disk behind it. -/
def appD (x : Lg) (d : Dm) (b : List Int) : Dm := if (appE x d b).2 = 0 then d.write (plc d x.area x.tail) (frameR (2, b)) else d
theorem appE_cases (x : Lg) (d : Dm) (b : List Int) :
    ((b.length = 0 ∨ 1800 < b.length) ∧ appE x d b = (0, 3)) ∨ ((b.length ≠ 0 ∧ b.length ≤ 1800) ∧ x.stage ≠ 0 ∧ appE x d b = (0, 15)) ∨
    ((b.length ≠ 0 ∧ b.length ≤ 1800) ∧ x.stage = 0 ∧ Sz d < x.tail + b.length + 9 ∧ appE x d b = (0, 5)) ∨ ((b.length ≠ 0 ∧ b.length ≤ 1800) ∧ x.stage = 0 ∧ x.tail + b.length + 9 ≤ Sz d ∧ appE x d b = (((x.all + 1 : Nat) : Int), 0)) := by
  unfold appE
  by_cases h1 : b.length = 0 ∨ 1800 < b.length
  · exact .inl ⟨h1, if_pos h1⟩
  · rw [if_neg h1]
    by_cases h2 : x.stage ≠ 0
    · exact .inr (.inl ⟨by omega, h2, if_pos h2⟩)
    · rw [if_neg h2]
      by_cases h3 : Sz d < x.tail + b.length + 9
      · exact .inr (.inr (.inl ⟨by omega, by omega, h3, if_pos h3⟩))
      · exact .inr (.inr (.inr ⟨by omega, by omega, by omega, if_neg h3⟩))
section
variable {w W : World} {Ps : List Thing} {g gl : Nat} {d : Dm} {x : Lg} {vp : Value}
theorem Append_any (h : Here w W (LogT gl g x vp :: DiskT g d :: Ps)) (hq : d.q.length ≤ 1000000) (A : Option Addr) (n c : Nat) (b : List Int) (hn : n = b.length) (hC : (Kd.int .u8).C W A b.length b) (hc : b.length ≤ c) (ht : x.tail ≤ Sz d) (ha : x.area ≤ 1) (hal : x.all ≤ 1000000) :
    Calls Try.prog 46 #[.pointer (some ⟨gl, 0, none⟩), .slice A n c] W fun e W' => e = .returned (.tuple #[.int .i64 (appE x d b).1, .int .i64 (appE x d b).2]) ∧
      Here w W' (LogT gl g (appL x d b) vp :: DiskT g (appD x d b) :: Ps) := by
  subst hn
  rcases appE_cases x d b with ⟨h1, he⟩ | ⟨h1, h2, he⟩ | ⟨h1, h2, h3, he⟩ | ⟨h1, h2, h3, he⟩
  · unfold appL appD
    rw [he]
    exact Append_form h A c b hC hc h1
  · unfold appL appD
    rw [he]
    exact Append_busy h A c b hC hc h1 h2
  · unfold appL appD
    rw [he]
    exact Append_full h A c b hC hc h1 h2 ht h3
  · unfold appL appD
    rw [he]
    exact Append_yes h hq A c b hC hc h1 h2 h3 ha hal
set_option maxHeartbeats 2000000 in
set_option maxRecDepth 100000 in
theorem Begin_busy (h : Here w W (LogT gl g x vp :: DiskT g d :: Ps)) (A : Option Addr) (c : Nat) (L : List (List Int)) (h0 : (Kd.slice 5 (Kd.int .u8)).C W A L.length L) (hL : L.length ≤ 1000) (hp : ∀ p ∈ L, p.length ≤ 60000) (hs : x.stage ≠ 0 ∨ x.sure < x.all) :
    Calls Try.prog 48 #[.pointer (some ⟨gl, 0, none⟩), .slice A L.length c] W fun e W' => e = .returned (.int .i64 15) ∧ Here w W' (LogT gl g x vp :: DiskT g d :: Ps) := by
  have HH := Aside0.mk h
  have H0 := Aside0.mk h0
  have HP := Aside0.mk hp
  obtain ⟨b, hb⟩ : ∃ b, b = framesOf (recsOf 1 L) := ⟨_, rfl⟩
  have HBB := Aside0.mk hb
  have hw : (((x.stage : Int) != 0) = true ∧ x.stage ≠ 0) ∨ (((x.stage : Int) != 0) = false ∧ x.stage = 0 ∧ decide ((x.sure : Int) < (x.all : Int)) = true ∧ x.sure < x.all) := by
    by_cases h1 : x.stage = 0
    · exact .inr ⟨by rw [h1]; rfl, h1, decide_eq_true (by omega), by omega⟩
    · exact .inl ⟨bne_iff_ne.mpr (by omega), h1⟩
  clear h h0 hp hb hs
  rcases hw with ⟨q1, q2⟩ | ⟨q1, q2, q3, q4⟩
  · go_enter Try.func48, Try.ntmps48
    go_wp2_with (first
      | (go_at_call 83; go_must (refine (framed_calls A c L _ H0.out hL HP.out).mono ?_; rw [← HBB.out]; rintro e w1 ⟨v, rfl, h⟩; have HW := Aside0.mk (HH.out.joinB h); obtain ⟨Ab, cb, rfl, kb, _⟩ := HW.out.bytes.slice; clear h HH))
      | (go_at_call 82; go_must (refine (made_here HW.out.swap).mono ?_; rintro e w2 ⟨rfl, rfl⟩)))
    obtain ⟨b0, b1, b2, b3, b4, b5, b6, b7⟩ := lg_cells HW.out.swap
    obtain ⟨c0, c1, c2, c3, c4, c5, c6, c7⟩ := lg_cells HW.out.swap.drew
    clear b0 b1 b2 b3 b7 c0 c1 c2 c3 c7
    go_region
    all_goals
      go_wp2_with fail
      go_ret
      exact ⟨rfl, HW.out.drew.drop⟩
  · go_enter Try.func48, Try.ntmps48
    go_wp2_with (first
      | (go_at_call 83; go_must (refine (framed_calls A c L _ H0.out hL HP.out).mono ?_; rw [← HBB.out]; rintro e w1 ⟨v, rfl, h⟩; have HW := Aside0.mk (HH.out.joinB h); obtain ⟨Ab, cb, rfl, kb, _⟩ := HW.out.bytes.slice; clear h HH))
      | (go_at_call 82; go_must (refine (made_here HW.out.swap).mono ?_; rintro e w2 ⟨rfl, rfl⟩)))
    go_region_held3 (fun w' => w'.cell? ⟨gl, 4, none⟩ = some (.int .i64 x.all) ∧ w'.cell? ⟨gl, 5, none⟩ = some (.int .i64 x.sure) ∧ w'.cell? ⟨gl, 6, none⟩ = some (.int .i64 x.stage))
      (first
        | exact lg_456 HW.out.swap
        | exact lg_456 HW.out.swap.drew)
      (first
        | fail)
    all_goals
      go_wp2_with fail
      go_ret
      exact ⟨rfl, HW.out.drew.drop⟩
end
end Go.Proofs.Ytmbemlpmfklddaa.Own
