/- Append. Append, where it finds room. framed, Begin. Append, in one: what it answers, and what comes of the log and of the disk. Begin while a change goes on. Step. Step: the parts, the turn, the wipe. Step: the wipe. split: parts and records. split: parts, then records. Reading a slot. Areas. Bytes are below 256: of lists, of a disk. What stands on a disk, told. Two rows that are only read, as one thing; split beside other things; Open. The run of alive, on lists: what the disk has at each step. -/
import Derived.Test.YtmapdfommjcebaaGreatLog1
import Derived.Deep.RegionWith
import Derived.Deep.RegionHeld3
import Derived.Test.YtmapdfommjcebaaGreatHr
namespace Go.Proofs.YtmapdfommjcebaaGreat.Own
open Go.RowKit Go.Proofs.YtmapdfommjcebaaGreatW.PrintWords Go.Proofs.YtmapdfommjcebaaGreatW.PrintLast Go.Proofs.YtmapdfommjcebaaGreatW.PrintMore
section
variable {w W : World} {Ps : List Thing} {g gl : Nat} {d : Dm} {x : Lg} {vp : Value}
set_option maxHeartbeats 1000000 in
set_option maxRecDepth 100000 in
theorem Append_form (h : Here w W (LogT gl g x vp :: DiskT g d :: Ps)) (A : Option Addr) (c : Nat) (b : List Int) (hC : (Kd.int .u8).C W A b.length b) (hc : b.length ≤ c) (hb : b.length = 0 ∨ 1800 < b.length) :
    Calls Tryz.prog 7 #[.pointer (some ⟨gl, 0, none⟩), .slice A b.length c] W fun e W' => e = .returned (.tuple #[.int .i64 0, .int .i64 3]) ∧ Here w W' (LogT gl g x vp :: DiskT g d :: Ps) := by
  have HH := Aside0.mk h
  have HC := Aside0.mk hC
  clear h hC
  by_cases gok : okR (2, b)
  · by_cases g0 : b.length = 0
    · obtain rfl : b = [] := List.eq_nil_of_length_eq_zero g0
      clear g0 hb
      go_enter Tryz.func7, Tryz.ntmps7
      go_wp2_with (first
        | (go_at_call 27; go_must (refine (WriteF_here HH.out (2, []) A c HC.out hc gok).mono ?_; rintro e w1 ⟨v, rfl, h⟩; have HW := Aside0.mk h; clear h HH))
        | (go_at_call 28; go_must (refine (made_here HW.out.drop).mono ?_; rintro e w2 ⟨rfl, rfl⟩)))
      go_ret2
      exact ⟨rfl, HW.out.drop⟩
    · have q1 : ((b.length : Int) == 0) = false := beq_eq_false_iff_ne.mpr (by omega)
      have q2 : decide ((1800 : Int) < (b.length : Int)) = true := decide_eq_true (by omega)
      have q3 : b.length ≠ 0 := g0
      go_enter Tryz.func7, Tryz.ntmps7
      go_wp2_with (first
        | (go_at_call 27; go_must (refine (WriteF_here HH.out (2, b) A c HC.out hc gok).mono ?_; rintro e w1 ⟨v, rfl, h⟩; have HW := Aside0.mk h; clear h HH))
        | (go_at_call 28; go_must (refine (made_here HW.out.drop).mono ?_; rintro e w2 ⟨rfl, rfl⟩)))
      go_ret2
      exact ⟨rfl, HW.out.drop⟩
  · go_enter Tryz.func7, Tryz.ntmps7
    go_wp2_with (first
      | (go_at_call 27; go_must (refine (Write_bad (2, b) A c _ HC.out hc gok).mono ?_; rintro e w1 ⟨rfl, h⟩; have HW := Aside0.mk (HH.out.then_ h); clear h HH))
      | (go_at_call 28; go_must (refine (made_here HW.out).mono ?_; rintro e w2 ⟨rfl, rfl⟩)))
    go_ret2
    exact ⟨rfl, HW.out⟩
set_option maxHeartbeats 1000000 in
set_option maxRecDepth 100000 in
theorem Append_busy (h : Here w W (LogT gl g x vp :: DiskT g d :: Ps)) (A : Option Addr) (c : Nat) (b : List Int) (hC : (Kd.int .u8).C W A b.length b) (hc : b.length ≤ c) (hb : b.length ≠ 0 ∧ b.length ≤ 1800) (hs : x.stage ≠ 0) :
    Calls Tryz.prog 7 #[.pointer (some ⟨gl, 0, none⟩), .slice A b.length c] W fun e W' => e = .returned (.tuple #[.int .i64 0, .int .i64 15]) ∧ Here w W' (LogT gl g x vp :: DiskT g d :: Ps) := by
  have HH := Aside0.mk h
  have HC := Aside0.mk hC
  have gok : okR (2, b) := ⟨(by omega : (1 : Int) ≤ 2), (by omega : (2 : Int) ≤ 255), (by omega : b.length ≤ 60000)⟩
  have q1 : ((b.length : Int) == 0) = false := beq_eq_false_iff_ne.mpr (by omega)
  have q2 : decide ((1800 : Int) < (b.length : Int)) = false := decide_eq_false (by omega)
  have q3 : b.length ≠ 0 := hb.1
  have q4 : ((x.stage : Int) != 0) = true := bne_iff_ne.mpr (by omega)
  clear h hC
  go_enter Tryz.func7, Tryz.ntmps7
  go_wp2_with (first
    | (go_at_call 27; go_must (refine (WriteF_here HH.out (2, b) A c HC.out hc gok).mono ?_; rintro e w1 ⟨v, rfl, h⟩; have HW := Aside0.mk h; obtain ⟨c0, c1, c2, c3, c4, c5, c6, c7⟩ := lg_cells h.drop; clear h HH))
    | (go_at_call 28; go_must (refine (made_here HW.out.drop).mono ?_; rintro e w2 ⟨rfl, rfl⟩)))
  go_ret2
  exact ⟨rfl, HW.out.drop⟩
set_option maxHeartbeats 1000000 in
set_option maxRecDepth 100000 in
theorem Append_full (h : Here w W (LogT gl g x vp :: DiskT g d :: Ps)) (A : Option Addr) (c : Nat) (b : List Int) (hC : (Kd.int .u8).C W A b.length b) (hc : b.length ≤ c) (hb : b.length ≠ 0 ∧ b.length ≤ 1800) (hs : x.stage = 0) (ht : x.tail ≤ Sz d) (hf : Sz d < x.tail + b.length + 9) :
    Calls Tryz.prog 7 #[.pointer (some ⟨gl, 0, none⟩), .slice A b.length c] W fun e W' => e = .returned (.tuple #[.int .i64 0, .int .i64 5]) ∧ Here w W' (LogT gl g x vp :: DiskT g d :: Ps) := by
  have HH := Aside0.mk h
  have HC := Aside0.mk hC
  have gok : okR (2, b) := ⟨(by omega : (1 : Int) ≤ 2), (by omega : (2 : Int) ≤ 255), (by omega : b.length ≤ 60000)⟩
  have q1 : ((b.length : Int) == 0) = false := beq_eq_false_iff_ne.mpr (by omega)
  have q2 : decide ((1800 : Int) < (b.length : Int)) = false := decide_eq_false (by omega)
  have q3 : b.length ≠ 0 := hb.1
  have q4 : ((x.stage : Int) != 0) = false := by rw [hs]; rfl
  have q5 : x.stage = 0 := hs
  obtain ⟨fr, hfr⟩ : ∃ fr, fr = frameR (2, b) := ⟨_, rfl⟩
  have HFR := Aside0.mk hfr
  obtain ⟨rm, hrm⟩ : ∃ rm, rm = Sz d - x.tail := ⟨_, rfl⟩
  have HRM := Aside0.mk hrm
  have hfl : fr.length = b.length + 9 := by rw [hfr, frameR_len]
  have q6 : decide ((rm : Int) < (fr.length : Int)) = true := decide_eq_true (by omega)
  have q7 : rm < fr.length := by omega
  have HT := Aside0.mk ht
  clear h hC hfl hrm hfr ht hf
  go_enter Tryz.func7, Tryz.ntmps7
  go_wp2_with (first
    | (go_at_call 27; go_must (refine (WriteF_here HH.out (2, b) A c HC.out hc gok).mono ?_; rw [← HFR.out]; rintro e w1 ⟨v, rfl, h⟩; obtain ⟨A6, c6, rfl, k6, _⟩ := h.bytes.slice; have HW := Aside0.mk h; obtain ⟨c0, c1, c2, c3, c4, c5, c6, c7⟩ := lg_cells h.drop; clear h HH))
    | (go_at_call 28; go_must (refine (made_here HW.out.drop).mono ?_; rintro e w2 ⟨rfl, rfl⟩))
    | (go_at_call 29; go_must (refine (Room_here HW.out.drop HT.out).mono ?_; rw [← HRM.out]; rintro e w3 ⟨rfl, h⟩; have HZ := Aside0.mk h; clear h)))
  go_ret2
  exact ⟨rfl, HZ.out⟩
end
end Go.Proofs.YtmapdfommjcebaaGreat.Own
namespace Go.Proofs.YtmapdfommjcebaaGreat.Own
open Go.RowKit Go.Proofs.YtmapdfommjcebaaGreatW.PrintWords Go.Proofs.YtmapdfommjcebaaGreatW.PrintLast Go.Proofs.YtmapdfommjcebaaGreatW.PrintMore
section
variable {w W : World} {Ps : List Thing} {g gl : Nat} {d : Dm} {x : Lg} {vp : Value}
theorem lg_three (h : Here w W (LogT gl g x vp :: Ps)) : W.cell? ⟨gl, 0, none⟩ = some (.pointer (some ⟨g, 0, none⟩)) ∧ W.cell? ⟨gl, 2, none⟩ = some (.int .i64 x.area) ∧ W.cell? ⟨gl, 3, none⟩ = some (.int .i64 x.tail) :=
  ⟨(lg_cells h).1, (lg_cells h).2.2.1, (lg_cells h).2.2.2.1⟩
set_option maxHeartbeats 4000000 in
set_option maxRecDepth 100000 in
theorem Append_yes (h : Here w W (LogT gl g x vp :: DiskT g d :: Ps)) (hq : d.q.length ≤ 1000000) (A : Option Addr) (c : Nat) (b : List Int) (hC : (Kd.int .u8).C W A b.length b) (hc : b.length ≤ c) (hb : b.length ≠ 0 ∧ b.length ≤ 1800) (hs : x.stage = 0) (hf : x.tail + b.length + 9 ≤ Sz d) (ha : x.area ≤ 1) (hal : x.all ≤ 1000000) :
    Calls Tryz.prog 7 #[.pointer (some ⟨gl, 0, none⟩), .slice A b.length c] W fun e W' => e = .returned (.tuple #[.int .i64 ((x.all + 1 : Nat) : Int), .int .i64 0]) ∧
      Here w W' (LogT gl g { x with tail := x.tail + b.length + 9, all := x.all + 1 } vp :: DiskT g (d.write (plc d x.area x.tail) (frameR (2, b))) :: Ps) := by
  have HH := Aside0.mk h
  have HC := Aside0.mk hC
  have hd := h.swap.diskOk
  have h2 := hd.hi
  have hz2 : 2 * Sz d + 32 ≤ d.b.length := by unfold Sz; have := hd.lo; omega
  have gok : okR (2, b) := ⟨(by omega : (1 : Int) ≤ 2), (by omega : (2 : Int) ≤ 255), (by omega : b.length ≤ 60000)⟩
  have q1 : ((b.length : Int) == 0) = false := beq_eq_false_iff_ne.mpr (by omega)
  have q2 : decide ((1800 : Int) < (b.length : Int)) = false := decide_eq_false (by omega)
  have q3 : b.length ≠ 0 := hb.1
  have q4 : ((x.stage : Int) != 0) = false := by rw [hs]; rfl
  have q5 : x.stage = 0 := hs
  obtain ⟨fr, hfr⟩ : ∃ fr, fr = frameR (2, b) := ⟨_, rfl⟩
  have HFR := Aside0.mk hfr
  obtain ⟨rm, hrm⟩ : ∃ rm, rm = Sz d - x.tail := ⟨_, rfl⟩
  have HRM := Aside0.mk hrm
  have hfl : fr.length = b.length + 9 := by rw [hfr, frameR_len]
  have HFL := Aside0.mk hfl
  have q6 : decide ((rm : Int) < (fr.length : Int)) = false := decide_eq_false (by omega)
  have q7 : ¬ rm < fr.length := by omega
  have HT := Aside0.mk (show x.tail ≤ Sz d by omega)
  have ht2 : x.tail ≤ 262144 := by omega
  obtain ⟨p, hp⟩ : ∃ p, p = plc d x.area x.tail := ⟨_, rfl⟩
  have HP := Aside0.mk hp
  have HF := Aside0.mk (show d.fits p fr.length by
    rw [hp, hfl]
    unfold plc Dm.fits
    have : x.area * Sz d ≤ 1 * Sz d := Nat.mul_le_mul_right _ ha
    omega)
  obtain ⟨nt, hnt⟩ : ∃ nt, nt = x.tail + b.length + 9 := ⟨_, rfl⟩
  have u1 : IntKind.i64.wrap ((x.tail : Int) + (fr.length : Int)) = (nt : Int) := by
    rw [hnt, show (x.tail : Int) + (fr.length : Int) = ((x.tail + b.length + 9 : Nat) : Int) by omega]
    exact IntWalk.i64_in _ ⟨by omega, by omega⟩
  have u2 : IntKind.i64.wrap ((x.all : Int) + 1) = (x.all : Int) + 1 := IntWalk.i64_in _ ⟨by omega, by omega⟩
  have HNT := Aside0.mk hnt
  clear h hC hfl hrm hfr hf hd hz2 hp hnt
  go_enter Tryz.func7, Tryz.ntmps7
  go_wp2_with (first
    | (go_at_call 27; go_must (refine (WriteF_here HH.out (2, b) A c HC.out hc gok).mono ?_; rw [← HFR.out]; rintro e w1 ⟨v, rfl, h⟩; obtain ⟨A6, cc, rfl, k6, _⟩ := h.bytes.slice; have HW := Aside0.mk h.third.third; obtain ⟨c0, c1, c2, c3, c4, c5, c6, c7⟩ := lg_cells h.drop; clear h HH))
    | (go_at_call 28; go_must (refine (made_here HW.out).mono ?_; rintro e w2 ⟨rfl, rfl⟩))
    | (go_at_call 29; go_must (refine (Room_here HW.out HT.out).mono ?_; rw [← HRM.out]; rintro e w3 ⟨rfl, h⟩; have HZ := Aside0.mk h; clear h HW c0 c1 c2 c3 c4 c5 c6 c7; obtain ⟨c0, c1, c2, c3, c4, c5, c6, c7⟩ := lg_cells HZ.out)))
  have U1 := Aside0.mk u1
  have U2 := Aside0.mk u2
  clear u1 u2 q1 q2 q3 q4 q5 q6 q7 c1 c4 c5 c6 c7 h2 hal hb
  go_region_held3 (fun w' => w'.cell? ⟨gl, 0, none⟩ = some (.pointer (some ⟨g, 0, none⟩)) ∧ w'.cell? ⟨gl, 2, none⟩ = some (.int .i64 x.area) ∧ w'.cell? ⟨gl, 3, none⟩ = some (.int .i64 x.tail))
    (first
      | exact lg_three HY.out
      | exact lg_three HZ.out
      | exact lg_three HZ.out.drew)
    (first
      | (go_at_call 31; go_must (refine (place_here HZ.out.drew.swap x.area x.tail ha ht2).mono ?_; rw [← HP.out]; rintro e w4 ⟨rfl, rfl⟩))
      | (go_at_call 30; go_must (refine (Write_here HZ.out.drew.swap hq p A6 cc fr (bytes_of (Here.nth HZ.out.drew 2 (by simp))) HF.out).mono ?_; rintro e w5 ⟨rfl, h⟩; have HY := Aside0.mk h.swap; clear h)))
  all_goals
    have u1 := U1.out
    have u2 := U2.out
    obtain ⟨d0, d1, d2, d3, d4, d5, d6, d7⟩ := lg_cells HY.out
    have f3 := lg_frozen HY.out 3
    have f4 := lg_frozen HY.out 4
    clear d0 d1 d2 d5 d6 d7
    go_wp2_with fail
    go_ret2
    refine ⟨rfl, ?_⟩
    rw [← HNT.out, ← HP.out, ← HFR.out]
    have hz := (HY.out.putCell 3 (.int .i64 nt)).putCell 4 (.int .i64 ((x.all : Int) + 1))
    exact hz.third.drop
end
end Go.Proofs.YtmapdfommjcebaaGreat.Own
namespace Go.Proofs.YtmapdfommjcebaaGreat.Own
open Go.RowKit Go.Proofs.YtmapdfommjcebaaGreatW.PrintWords Go.Proofs.YtmapdfommjcebaaGreatW.PrintLast Go.Proofs.YtmapdfommjcebaaGreatW.PrintMore
def recsOf (k : Int) (L : List (List Int)) : List Rec := L.map (fun p => (k, p))
theorem recs_take {k : Int} {L : List (List Int)} {i : Nat} (hi : i < L.length) : recsOf k (L.take (i + 1)) = recsOf k (L.take i) ++ [(k, L[i])] := by
  unfold recsOf
  rw [List.take_add_one, List.getElem?_eq_getElem hi, List.map_append]
  rfl
theorem recs_len (k : Int) (L : List (List Int)) : (recsOf k L).length = L.length := by simp [recsOf]
set_option maxHeartbeats 2000000 in
set_option maxRecDepth 100000 in
theorem framed_calls (A : Option Addr) (c : Nat) (L : List (List Int)) (w : World) (h0 : (Kd.slice 5 (Kd.int .u8)).C w A L.length L) (hL : L.length ≤ 1000) (hp : ∀ p ∈ L, p.length ≤ 60000) :
    Calls Tryz.prog 33 #[.slice A L.length c] w fun e w' => ∃ v, e = .returned (.tuple #[v, .bool true]) ∧ Here w w' [BytesT v (framesOf (recsOf 1 L))] := by
  have H0 := Aside0.mk h0
  have HP := Aside0.mk hp
  have HH := Aside0.mk (Here.nil w)
  clear h0 hp
  go_enter Tryz.func33, Tryz.ntmps33
  go_wp2_with fail
  go_loopw [4, 11] (fun v4 v11 wr => ∃ (k : Nat), k ≤ L.length ∧ v11 = .int .i64 k ∧ Aside0 (Here w wr [BytesT v4 (framesOf (recsOf 1 (L.take k)))])) (fun _ v11 _ => L.length - (intOf v11).toNat)
  case atStart => exact ⟨0, by omega, rfl, ⟨by simpa [recsOf, framesOf] using HH.out.addNil⟩⟩
  case round =>
    obtain ⟨k, hk, rfl, HI⟩ := hrel
    by_cases hlt : k < L.length
    · have q1 : decide ((k : Int) < (L.length : Int)) = true := decide_eq_true (by omega)
      have u1 : IntKind.i64.wrap ((k : Int) + 1) = (k : Int) + 1 := IntWalk.i64_in _ ⟨by omega, by omega⟩
      obtain ⟨ad, A3, c3, rfl, e0, k3, C3⟩ := atRows H0.out k hlt rfl
      replace e0 := pw_cell_below HI.out.below e0
      have HC3 := Aside0.mk C3
      have hpl := HP.out L[k] (List.getElem_mem hlt)
      have HRT := Aside0.mk (recs_take (k := 1) hlt)
      have HFL := Aside0.mk (framesOf_len (n := 60000) (recsOf 1 (L.take k)) (by
        intro r hr
        obtain ⟨p, hp, rfl⟩ := List.mem_map.1 hr
        exact HP.out p (List.mem_of_mem_take hp)))
      have HRL := Aside0.mk (show (recsOf 1 (L.take k)).length ≤ 1000 by rw [recs_len, List.length_take]; omega)
      generalize L[k] = pb at e0 k3 HC3 hpl HRT
      clear C3
      have gok : okR (1, pb) := ⟨(by omega : (1 : Int) ≤ 1), (by omega : (1 : Int) ≤ 255), hpl⟩
      obtain ⟨fr, hfr⟩ : ∃ fr, fr = frameR (1, pb) := ⟨_, rfl⟩
      have HFR := Aside0.mk hfr
      have HFRL := Aside0.mk (show fr.length ≤ 60009 by rw [hfr, frameR_len]; simp only; omega)
      clear hfr
      go_wp2_with (first
        | (go_at_call 27; go_must (refine (WriteF_here HI.out (1, pb) A3 c3 (by exact Kd.C_below HC3.out HI.out.below) k3 gok).mono ?_; rw [← HFR.out]; rintro e w1 ⟨v, rfl, h⟩; obtain ⟨Ab, cb, rfl, kb, _⟩ := h.bytes.slice; have HJ := Aside0.mk h; clear HI h))
        | (at_builtin; go_must (refine app_here HJ.out.swap rfl (.tmp 23) (.tmp 24) rfl fr Ab fr.length cb rfl rfl rfl (by obtain ⟨A, c, e, _, h⟩ := HJ.out.bytes.slice; cases e; exact h) (by have h9 := HFL.out; have h8 := HRL.out; have h7 := HFRL.out; omega) ?_); intro v1 w2 h; have HK := Aside0.mk h.swap.drop; clear HJ h))
      go_roundw
      case rel =>
        refine ⟨k + 1, by omega, by go_num, ⟨?_⟩⟩
        rw [HRT.out, framesOf_append, framesOf_one, ← HFR.out]
        exact HK.out
      case measure => simp [intOf]; omega
    · obtain rfl : k = L.length := by omega
      rw [List.take_length] at HI
      go_wp2_with fail
      go_ret2
      exact ⟨_, rfl, HI.out⟩
theorem Here.joinB {w W W' : World} {Ps : List Thing} {P : Thing} (h : Here w W Ps) (h2 : Here W W' [P]) : Here w W' (P :: Ps) := by
  obtain ⟨S, ⟨S1, S2, h1, _, _, h4⟩, h5, h6⟩ := h2
  exact h.add h1 h6 (fun k hk => (h5 k (h4 k (.inl hk))).1)
section
variable {w W : World} {Ps : List Thing} {g gl : Nat} {d : Dm} {x : Lg} {vp : Value}
theorem lg_456 (h : Here w W (LogT gl g x vp :: Ps)) : W.cell? ⟨gl, 4, none⟩ = some (.int .i64 x.all) ∧ W.cell? ⟨gl, 5, none⟩ = some (.int .i64 x.sure) ∧ W.cell? ⟨gl, 6, none⟩ = some (.int .i64 x.stage) :=
  ⟨(lg_cells h).2.2.2.2.1, (lg_cells h).2.2.2.2.2.1, (lg_cells h).2.2.2.2.2.2.1⟩
set_option maxHeartbeats 2000000 in
set_option maxRecDepth 100000 in
theorem Begin_yes (h : Here w W (LogT gl g x vp :: DiskT g d :: Ps)) (A : Option Addr) (c : Nat) (L : List (List Int)) (h0 : (Kd.slice 5 (Kd.int .u8)).C W A L.length L) (hL : L.length ≤ 1000) (hp : ∀ p ∈ L, p.length ≤ 60000) (hs : x.stage = 0) (hsu : x.all ≤ x.sure) (hf : (framesOf (recsOf 1 L)).length ≤ Sz d) :
    Calls Tryz.prog 9 #[.pointer (some ⟨gl, 0, none⟩), .slice A L.length c] W fun e W' => ∃ v, e = .returned (.int .i64 0) ∧ Here w W' (LogT gl g { x with stage := 1 } v :: DiskT g d :: BytesT v (framesOf (recsOf 1 L)) :: Ps) := by
  have HH := Aside0.mk h
  have H0 := Aside0.mk h0
  have HP := Aside0.mk hp
  obtain ⟨b, hb⟩ : ∃ b, b = framesOf (recsOf 1 L) := ⟨_, rfl⟩
  have HBB := Aside0.mk hb
  obtain ⟨z, hz⟩ : ∃ z, z = Sz d := ⟨_, rfl⟩
  have HZ := Aside0.mk hz
  have q1 : decide ((x.sure : Int) < (x.all : Int)) = false := decide_eq_false (by omega)
  have q2 : ¬ x.sure < x.all := by omega
  have q3 : ((x.stage : Int) != 0) = false := by rw [hs]; rfl
  have q4 : decide ((z : Int) < (b.length : Int)) = false := decide_eq_false (by rw [hz, hb]; omega)
  have q5 : ¬ z < b.length := by rw [hz, hb]; omega
  have q6 : x.stage = 0 := hs
  clear hf hsu
  clear h h0 hp hb hz
  go_enter Tryz.func9, Tryz.ntmps9
  go_wp2_with (first
    | (go_at_call 33; go_must (refine (framed_calls A c L _ H0.out hL HP.out).mono ?_; rw [← HBB.out]; rintro e w1 ⟨v, rfl, h⟩; have HW := Aside0.mk (HH.out.joinB h); obtain ⟨Ab, cb, rfl, kb, _⟩ := HW.out.bytes.slice; clear h HH))
    | (go_at_call 28; go_must (refine (made_here HW.out.swap).mono ?_; rintro e w2 ⟨rfl, rfl⟩)))
  go_region_held3 (fun w' => w'.cell? ⟨gl, 4, none⟩ = some (.int .i64 x.all) ∧ w'.cell? ⟨gl, 5, none⟩ = some (.int .i64 x.sure) ∧ w'.cell? ⟨gl, 6, none⟩ = some (.int .i64 x.stage))
    (first
      | exact lg_456 HW.out.swap
      | exact lg_456 HW.out.swap.drew)
    (first
      | fail)
  all_goals
    obtain ⟨c0, c1, c2, c3, c4, c5, c6, c7⟩ := lg_cells HW.out.swap.drew
    have f7 := lg_frozen HW.out.swap.drew 7
    have f6 := lg_frozen HW.out.swap.drew 6
    have e7 := lg_frozen HW.out.swap 7
    have e6 := lg_frozen HW.out.swap 6
    obtain ⟨b0, b1, b2, b3, b4, b5, b6, b7⟩ := lg_cells HW.out.swap
    clear b1 b2 b3 b4 b5 c1 c2 c3 c4 c5
    have HD := Aside0.mk HW.out.drew
    clear HW
    go_wp2_with (go_at_call 34; go_must (refine (size_here HD.out.third).mono ?_; rw [← HZ.out]; rintro e w3 ⟨rfl, rfl⟩))
    go_ret
    refine ⟨.slice Ab b.length cb, rfl, ?_⟩
    rw [← HBB.out]
    have hy := (HD.out.swap.putCell 7 (.slice Ab b.length cb)).putCell 6 (.int .i64 1)
    exact hy.third.swap
set_option maxHeartbeats 2000000 in
set_option maxRecDepth 100000 in
theorem Begin_full (h : Here w W (LogT gl g x vp :: DiskT g d :: Ps)) (A : Option Addr) (c : Nat) (L : List (List Int)) (h0 : (Kd.slice 5 (Kd.int .u8)).C W A L.length L) (hL : L.length ≤ 1000) (hp : ∀ p ∈ L, p.length ≤ 60000) (hs : x.stage = 0) (hsu : x.all ≤ x.sure) (hf : Sz d < (framesOf (recsOf 1 L)).length) :
    Calls Tryz.prog 9 #[.pointer (some ⟨gl, 0, none⟩), .slice A L.length c] W fun e W' => e = .returned (.int .i64 5) ∧ Here w W' (LogT gl g x vp :: DiskT g d :: Ps) := by
  have HH := Aside0.mk h
  have H0 := Aside0.mk h0
  have HP := Aside0.mk hp
  obtain ⟨b, hb⟩ : ∃ b, b = framesOf (recsOf 1 L) := ⟨_, rfl⟩
  have HBB := Aside0.mk hb
  obtain ⟨z, hz⟩ : ∃ z, z = Sz d := ⟨_, rfl⟩
  have HZ := Aside0.mk hz
  have q1 : decide ((x.sure : Int) < (x.all : Int)) = false := decide_eq_false (by omega)
  have q2 : ¬ x.sure < x.all := by omega
  have q3 : ((x.stage : Int) != 0) = false := by rw [hs]; rfl
  have q4 : decide ((z : Int) < (b.length : Int)) = true := decide_eq_true (by rw [hz, hb]; omega)
  have q5 : z < b.length := by rw [hz, hb]; omega
  have q6 : x.stage = 0 := hs
  clear hf hsu
  clear h h0 hp hb hz
  go_enter Tryz.func9, Tryz.ntmps9
  go_wp2_with (first
    | (go_at_call 33; go_must (refine (framed_calls A c L _ H0.out hL HP.out).mono ?_; rw [← HBB.out]; rintro e w1 ⟨v, rfl, h⟩; have HW := Aside0.mk (HH.out.joinB h); obtain ⟨Ab, cb, rfl, kb, _⟩ := HW.out.bytes.slice; clear h HH))
    | (go_at_call 28; go_must (refine (made_here HW.out.swap).mono ?_; rintro e w2 ⟨rfl, rfl⟩)))
  go_region_held3 (fun w' => w'.cell? ⟨gl, 4, none⟩ = some (.int .i64 x.all) ∧ w'.cell? ⟨gl, 5, none⟩ = some (.int .i64 x.sure) ∧ w'.cell? ⟨gl, 6, none⟩ = some (.int .i64 x.stage))
    (first
      | exact lg_456 HW.out.swap
      | exact lg_456 HW.out.swap.drew)
    (first
      | fail)
  all_goals
    obtain ⟨c0, c1, c2, c3, c4, c5, c6, c7⟩ := lg_cells HW.out.swap.drew
    have f7 := lg_frozen HW.out.swap.drew 7
    have f6 := lg_frozen HW.out.swap.drew 6
    have e7 := lg_frozen HW.out.swap 7
    have e6 := lg_frozen HW.out.swap 6
    obtain ⟨b0, b1, b2, b3, b4, b5, b6, b7⟩ := lg_cells HW.out.swap
    clear b1 b2 b3 b4 b5 c1 c2 c3 c4 c5
    have HD := Aside0.mk HW.out.drew
    clear HW
    go_wp2_with (go_at_call 34; go_must (refine (size_here HD.out.third).mono ?_; rw [← HZ.out]; rintro e w3 ⟨rfl, rfl⟩))
    go_ret
    exact ⟨rfl, HD.out.drop⟩
end
end Go.Proofs.YtmapdfommjcebaaGreat.Own
namespace Go.Proofs.YtmapdfommjcebaaGreat.Own
open Go.RowKit Go.Proofs.YtmapdfommjcebaaGreatW.PrintWords Go.Proofs.YtmapdfommjcebaaGreatW.PrintLast Go.Proofs.YtmapdfommjcebaaGreatW.PrintMore
/-- What Append answers: its number and its error. -/
def appE (x : Lg) (d : Dm) (b : List Int) : Int × Int :=
  if b.length = 0 ∨ 1800 < b.length then (0, 3) else if x.stage ≠ 0 then (0, 15) else if Sz d < x.tail + b.length + 9 then (0, 5) else (((x.all + 1 : Nat) : Int), 0)
/-- The log behind it. -/
def appL (x : Lg) (d : Dm) (b : List Int) : Lg := if (appE x d b).2 = 0 then { x with tail := x.tail + b.length + 9, all := x.all + 1 } else x
/-- The disk behind it. -/
def appD (x : Lg) (d : Dm) (b : List Int) : Dm := if (appE x d b).2 = 0 then d.write (plc d x.area x.tail) (frameR (2, b)) else d
theorem appE_cases (x : Lg) (d : Dm) (b : List Int) :
    ((b.length = 0 ∨ 1800 < b.length) ∧ appE x d b = (0, 3)) ∨ ((b.length ≠ 0 ∧ b.length ≤ 1800) ∧ x.stage ≠ 0 ∧ appE x d b = (0, 15)) ∨
    ((b.length ≠ 0 ∧ b.length ≤ 1800) ∧ x.stage = 0 ∧ Sz d < x.tail + b.length + 9 ∧ appE x d b = (0, 5)) ∨ ((b.length ≠ 0 ∧ b.length ≤ 1800) ∧ x.stage = 0 ∧ x.tail + b.length + 9 ≤ Sz d ∧ appE x d b = (((x.all + 1 : Nat) : Int), 0)) := by
  unfold appE
  by_cases h1 : b.length = 0 ∨ 1800 < b.length
  · exact .inl ⟨h1, if_pos h1⟩
  · rw [if_neg h1]
    by_cases h2 : x.stage ≠ 0
    · exact .inr (.inl ⟨by omega, h2, if_pos h2⟩)
    · rw [if_neg h2]
      by_cases h3 : Sz d < x.tail + b.length + 9
      · exact .inr (.inr (.inl ⟨by omega, by omega, h3, if_pos h3⟩))
      · exact .inr (.inr (.inr ⟨by omega, by omega, by omega, if_neg h3⟩))
section
variable {w W : World} {Ps : List Thing} {g gl : Nat} {d : Dm} {x : Lg} {vp : Value}
theorem Append_any (h : Here w W (LogT gl g x vp :: DiskT g d :: Ps)) (hq : d.q.length ≤ 1000000) (A : Option Addr) (n c : Nat) (b : List Int) (hn : n = b.length) (hC : (Kd.int .u8).C W A b.length b) (hc : b.length ≤ c) (ht : x.tail ≤ Sz d) (ha : x.area ≤ 1) (hal : x.all ≤ 1000000) :
    Calls Tryz.prog 7 #[.pointer (some ⟨gl, 0, none⟩), .slice A n c] W fun e W' => e = .returned (.tuple #[.int .i64 (appE x d b).1, .int .i64 (appE x d b).2]) ∧
      Here w W' (LogT gl g (appL x d b) vp :: DiskT g (appD x d b) :: Ps) := by
  subst hn
  rcases appE_cases x d b with ⟨h1, he⟩ | ⟨h1, h2, he⟩ | ⟨h1, h2, h3, he⟩ | ⟨h1, h2, h3, he⟩
  · unfold appL appD
    rw [he]
    exact Append_form h A c b hC hc h1
  · unfold appL appD
    rw [he]
    exact Append_busy h A c b hC hc h1 h2
  · unfold appL appD
    rw [he]
    exact Append_full h A c b hC hc h1 h2 ht h3
  · unfold appL appD
    rw [he]
    exact Append_yes h hq A c b hC hc h1 h2 h3 ha hal
set_option maxHeartbeats 2000000 in
set_option maxRecDepth 100000 in
theorem Begin_busy (h : Here w W (LogT gl g x vp :: DiskT g d :: Ps)) (A : Option Addr) (c : Nat) (L : List (List Int)) (h0 : (Kd.slice 5 (Kd.int .u8)).C W A L.length L) (hL : L.length ≤ 1000) (hp : ∀ p ∈ L, p.length ≤ 60000) (hs : x.stage ≠ 0 ∨ x.sure < x.all) :
    Calls Tryz.prog 9 #[.pointer (some ⟨gl, 0, none⟩), .slice A L.length c] W fun e W' => e = .returned (.int .i64 15) ∧ Here w W' (LogT gl g x vp :: DiskT g d :: Ps) := by
  have HH := Aside0.mk h
  have H0 := Aside0.mk h0
  have HP := Aside0.mk hp
  obtain ⟨b, hb⟩ : ∃ b, b = framesOf (recsOf 1 L) := ⟨_, rfl⟩
  have HBB := Aside0.mk hb
  have hw : (((x.stage : Int) != 0) = true ∧ x.stage ≠ 0) ∨ (((x.stage : Int) != 0) = false ∧ x.stage = 0 ∧ decide ((x.sure : Int) < (x.all : Int)) = true ∧ x.sure < x.all) := by
    by_cases h1 : x.stage = 0
    · exact .inr ⟨by rw [h1]; rfl, h1, decide_eq_true (by omega), by omega⟩
    · exact .inl ⟨bne_iff_ne.mpr (by omega), h1⟩
  clear h h0 hp hb hs
  rcases hw with ⟨q1, q2⟩ | ⟨q1, q2, q3, q4⟩
  · go_enter Tryz.func9, Tryz.ntmps9
    go_wp2_with (first
      | (go_at_call 33; go_must (refine (framed_calls A c L _ H0.out hL HP.out).mono ?_; rw [← HBB.out]; rintro e w1 ⟨v, rfl, h⟩; have HW := Aside0.mk (HH.out.joinB h); obtain ⟨Ab, cb, rfl, kb, _⟩ := HW.out.bytes.slice; clear h HH))
      | (go_at_call 28; go_must (refine (made_here HW.out.swap).mono ?_; rintro e w2 ⟨rfl, rfl⟩)))
    obtain ⟨b0, b1, b2, b3, b4, b5, b6, b7⟩ := lg_cells HW.out.swap
    obtain ⟨c0, c1, c2, c3, c4, c5, c6, c7⟩ := lg_cells HW.out.swap.drew
    clear b0 b1 b2 b3 b7 c0 c1 c2 c3 c7
    go_region
    all_goals
      go_wp2_with fail
      go_ret
      exact ⟨rfl, HW.out.drew.drop⟩
  · go_enter Tryz.func9, Tryz.ntmps9
    go_wp2_with (first
      | (go_at_call 33; go_must (refine (framed_calls A c L _ H0.out hL HP.out).mono ?_; rw [← HBB.out]; rintro e w1 ⟨v, rfl, h⟩; have HW := Aside0.mk (HH.out.joinB h); obtain ⟨Ab, cb, rfl, kb, _⟩ := HW.out.bytes.slice; clear h HH))
      | (go_at_call 28; go_must (refine (made_here HW.out.swap).mono ?_; rintro e w2 ⟨rfl, rfl⟩)))
    go_region_held3 (fun w' => w'.cell? ⟨gl, 4, none⟩ = some (.int .i64 x.all) ∧ w'.cell? ⟨gl, 5, none⟩ = some (.int .i64 x.sure) ∧ w'.cell? ⟨gl, 6, none⟩ = some (.int .i64 x.stage))
      (first
        | exact lg_456 HW.out.swap
        | exact lg_456 HW.out.swap.drew)
      (first
        | fail)
    all_goals
      go_wp2_with fail
      go_ret
      exact ⟨rfl, HW.out.drew.drop⟩
end
end Go.Proofs.YtmapdfommjcebaaGreat.Own
namespace Go.Proofs.YtmapdfommjcebaaGreat.Own
open Go.RowKit Go.Proofs.YtmapdfommjcebaaGreatW.PrintWords Go.Proofs.YtmapdfommjcebaaGreatW.PrintLast Go.Proofs.YtmapdfommjcebaaGreatW.PrintMore
section
variable {w W : World} {Ps : List Thing} {g gl : Nat} {d : Dm} {vp : Value} {gen : Int} {area tail all sure : Nat}
theorem lg_stage {x : Lg} (h : Here w W (LogT gl g x vp :: Ps)) {s : Nat} (hs : x.stage = s) : W.cell? ⟨gl, 6, none⟩ = some (.int .i64 (s : Int)) := by
  subst hs
  exact (lg_cells h).2.2.2.2.2.2.1
theorem Sz_write (d : Dm) (p : Int) (l : List Int) : Sz (d.write p l) = Sz d := rfl
theorem now_len {d : Dm} (h : d.Ok) : d.now.length = d.b.length := Dm.now_length h
theorem Sz_flush {d : Dm} (h : d.Ok) : Sz d.flush = Sz d := by
  unfold Sz
  rw [show d.flush.b = d.now from rfl, now_len h]
theorem plc_flush {d : Dm} (h : d.Ok) (a f : Nat) : plc d.flush a f = plc d a f := by
  unfold plc
  rw [Sz_flush h]
set_option maxHeartbeats 2000000 in
set_option maxRecDepth 100000 in
theorem Step_1 (h : Here w W (LogT gl g ⟨gen, area, tail, all, sure, 1⟩ vp :: DiskT g d :: Ps)) (hq : d.q.length ≤ 1000000) (ha : area ≤ 1) :
    Calls Tryz.prog 10 #[.pointer (some ⟨gl, 0, none⟩)] W fun e W' => e = .returned (.tuple #[.int .i64 2, .int .i64 0]) ∧ Here w W' (LogT gl g ⟨gen, area, tail, all, sure, 2⟩ vp :: DiskT g (d.flush.write (plc d (1 - area) 0) (List.replicate (Sz d) 0)) :: Ps) := by
  have HH := Aside0.mk h
  have hk := h.swap.diskOk
  have HK := Aside0.mk hk
  obtain ⟨k0, k1, k2, k3, k4, k5, _, k7⟩ := lg_cells h
  have k6 : W.cell? ⟨gl, 6, none⟩ = some (.int .i64 1) := lg_stage h rfl
  obtain ⟨oth, hoth⟩ : ∃ oth, oth = 1 - area := ⟨_, rfl⟩
  have HO := Aside0.mk hoth
  have u1 : IntKind.i64.wrap (1 - (area : Int)) = (oth : Int) := by
    rw [hoth, show (1 : Int) - (area : Int) = ((1 - area : Nat) : Int) by omega]
    exact IntWalk.i64_in _ ⟨by omega, by omega⟩
  have ho : oth ≤ 1 := by omega
  obtain ⟨d1, hd1⟩ : ∃ d1, d1 = d.flush := ⟨_, rfl⟩
  have HD1 := Aside0.mk hd1
  have HQ1 := Aside0.mk (show d1.q = [] by rw [hd1]; rfl)
  have HP1 := Aside0.mk (show plc d1 oth 0 = plc d oth 0 by rw [hd1, plc_flush hk])
  have HS1 := Aside0.mk (show Sz d1 = Sz d by rw [hd1, Sz_flush hk])
  clear h hk hoth hd1
  go_enter Tryz.func10, Tryz.ntmps10
  go_wp2_with (first
    | (go_at_call 28; go_must (refine (made_here HH.out).mono ?_; rintro e w1 ⟨rfl, rfl⟩))
    | (go_at_call 32; go_must (refine (Flush_here HH.out.swap hq).mono ?_; rw [← HD1.out]; rintro e w2 ⟨rfl, h⟩; have HF := Aside0.mk h.swap; clear h k0 k1 k2 k3 k4 k5 k6 k7; obtain ⟨k0, k1, k2, k3, k4, k5, _, k7⟩ := lg_cells HF.out; have k6 : w2.cell? ⟨gl, 6, none⟩ = some (.int .i64 1) := lg_stage HF.out rfl; have f6 := lg_frozen HF.out 6))
    | (go_at_call 35; go_must (refine (noughts_here (f := 0) HF.out.swap (by rw [HQ1.out]; simp) oth ho (Nat.zero_le _)).mono ?_; rintro e w3 ⟨rfl, h⟩; have HG := Aside0.mk h.swap; clear h k0 k1 k2 k3 k4 k5 k6 k7 f6; have k6 : w3.cell? ⟨gl, 6, none⟩ = some (.int .i64 1) := lg_stage HG.out rfl; have f6 := lg_frozen HG.out 6)))
  go_ret2
  refine ⟨rfl, ?_⟩
  have hy := HG.out.putCell 6 (.int .i64 2)
  rw [HP1.out, HS1.out, HD1.out, HO.out, Nat.sub_zero] at hy
  exact hy
set_option maxHeartbeats 2000000 in
set_option maxRecDepth 100000 in
theorem Step_5 (h : Here w W (LogT gl g ⟨gen, area, tail, all, sure, 5⟩ vp :: DiskT g d :: Ps)) (hq : d.q.length ≤ 1000000) (ha : area ≤ 1) :
    Calls Tryz.prog 10 #[.pointer (some ⟨gl, 0, none⟩)] W fun e W' => e = .returned (.tuple #[.int .i64 0, .int .i64 0]) ∧ Here w W' (LogT gl g ⟨gen, area, tail, all, sure, 0⟩ vp :: DiskT g d.flush :: Ps) := by
  have HH := Aside0.mk h
  have hk := h.swap.diskOk
  have HK := Aside0.mk hk
  obtain ⟨k0, k1, k2, k3, k4, k5, _, k7⟩ := lg_cells h
  have k6 : W.cell? ⟨gl, 6, none⟩ = some (.int .i64 5) := lg_stage h rfl
  obtain ⟨oth, hoth⟩ : ∃ oth, oth = 1 - area := ⟨_, rfl⟩
  have HO := Aside0.mk hoth
  have u1 : IntKind.i64.wrap (1 - (area : Int)) = (oth : Int) := by
    rw [hoth, show (1 : Int) - (area : Int) = ((1 - area : Nat) : Int) by omega]
    exact IntWalk.i64_in _ ⟨by omega, by omega⟩
  have ho : oth ≤ 1 := by omega
  obtain ⟨d1, hd1⟩ : ∃ d1, d1 = d.flush := ⟨_, rfl⟩
  have HD1 := Aside0.mk hd1
  have HQ1 := Aside0.mk (show d1.q = [] by rw [hd1]; rfl)
  clear h hk hoth hd1
  go_enter Tryz.func10, Tryz.ntmps10
  go_wp2_with (first
    | (go_at_call 28; go_must (refine (made_here HH.out).mono ?_; rintro e w1 ⟨rfl, rfl⟩))
    | (go_at_call 32; go_must (refine (Flush_here HH.out.swap hq).mono ?_; rw [← HD1.out]; rintro e w2 ⟨rfl, h⟩; have HF := Aside0.mk h.swap; clear h k0 k1 k2 k3 k4 k5 k6 k7; obtain ⟨k0, k1, k2, k3, k4, k5, _, k7⟩ := lg_cells HF.out; have k6 : w2.cell? ⟨gl, 6, none⟩ = some (.int .i64 5) := lg_stage HF.out rfl; have f6 := lg_frozen HF.out 6)))
  go_ret2
  refine ⟨rfl, ?_⟩
  have hy := HF.out.putCell 6 (.int .i64 0)
  rw [HD1.out] at hy
  exact hy
end
end Go.Proofs.YtmapdfommjcebaaGreat.Own
namespace Go.Proofs.YtmapdfommjcebaaGreat.Own
open Go.RowKit Go.Proofs.YtmapdfommjcebaaGreatW.PrintWords Go.Proofs.YtmapdfommjcebaaGreatW.PrintLast Go.Proofs.YtmapdfommjcebaaGreatW.PrintMore
section
variable {w W : World} {Ps : List Thing} {g gl : Nat} {d : Dm} {vp : Value} {gen : Int} {area tail all sure : Nat} {Ap : Option Addr} {cp : Nat} {parts : List Int}
theorem lg_017 {x : Lg} (h : Here w W (LogT gl g x vp :: Ps)) : W.cell? ⟨gl, 0, none⟩ = some (.pointer (some ⟨g, 0, none⟩)) ∧ W.cell? ⟨gl, 1, none⟩ = some (.int .u32 x.gen) ∧ W.cell? ⟨gl, 7, none⟩ = some vp ∧ W.cell? ⟨gl, 2, none⟩ = some (.int .i64 x.area) :=
  ⟨(lg_cells h).1, (lg_cells h).2.1, (lg_cells h).2.2.2.2.2.2.2, (lg_cells h).2.2.1⟩
set_option maxHeartbeats 2000000 in
set_option maxRecDepth 100000 in
theorem Step_3 (h : Here w W (LogT gl g ⟨gen, area, tail, all, sure, 3⟩ vp :: DiskT g d :: Ps)) (hq : d.q.length ≤ 1000000) (ha : area ≤ 1) (hg : 0 ≤ gen ∧ gen < 4294967295) :
    Calls Tryz.prog 10 #[.pointer (some ⟨gl, 0, none⟩)] W fun e W' => e = .returned (.tuple #[.int .i64 4, .int .i64 0]) ∧ Here w W' (LogT gl g ⟨gen, area, tail, all, sure, 4⟩ vp :: DiskT g (d.flush.write ((gen + 1) % 2 * 16) (slotB (gen + 1) ((1 - area : Nat) : Int))) :: Ps) := by
  have HH := Aside0.mk h
  have hk := h.swap.diskOk
  have HK := Aside0.mk hk
  obtain ⟨k0, k1, k2, k3, k4, k5, _, k7⟩ := lg_cells h
  have k6 : W.cell? ⟨gl, 6, none⟩ = some (.int .i64 3) := lg_stage h rfl
  obtain ⟨oth, hoth⟩ : ∃ oth, oth = 1 - area := ⟨_, rfl⟩
  have HO := Aside0.mk hoth
  have u1 : IntKind.i64.wrap (1 - (area : Int)) = (oth : Int) := by
    rw [hoth, show (1 : Int) - (area : Int) = ((1 - area : Nat) : Int) by omega]
    exact IntWalk.i64_in _ ⟨by omega, by omega⟩
  have ho : oth ≤ 1 := by omega
  obtain ⟨d1, hd1⟩ : ∃ d1, d1 = d.flush := ⟨_, rfl⟩
  have HD1 := Aside0.mk hd1
  have HQ1 := Aside0.mk (show d1.q = [] by rw [hd1]; rfl)
  have u3 : IntKind.u32.wrap (gen + 1) = gen + 1 := by
    simp [IntKind.wrap, IntKind.signed, IntKind.bits]
    omega
  clear h hk hoth hd1
  go_enter Tryz.func10, Tryz.ntmps10
  go_wp2_with (first
    | (go_at_call 28; go_must (refine (made_here HH.out).mono ?_; rintro e w1 ⟨rfl, rfl⟩))
    | (go_at_call 32; go_must (refine (Flush_here HH.out.swap hq).mono ?_; rw [← HD1.out]; rintro e w2 ⟨rfl, h⟩; have HF := Aside0.mk h.swap; clear h k0 k1 k2 k3 k4 k5 k6 k7; obtain ⟨k0, k1, k2, k3, k4, k5, _, k7⟩ := lg_cells HF.out; have k6 : w2.cell? ⟨gl, 6, none⟩ = some (.int .i64 3) := lg_stage HF.out rfl; have f6 := lg_frozen HF.out 6)))
  clear k0 k1 k2 k3 k4 k5 k7 k6 f6
  go_region_held3 (fun w' => w'.cell? ⟨gl, 0, none⟩ = some (.pointer (some ⟨g, 0, none⟩)) ∧ w'.cell? ⟨gl, 1, none⟩ = some (.int .u32 gen) ∧ w'.cell? ⟨gl, 7, none⟩ = some (vp) ∧ w'.cell? ⟨gl, 2, none⟩ = some (.int .i64 area))
    (first
      | exact lg_017 HG.out
      | exact lg_017 HF.out
      | exact lg_017 HF.out.drew)
    (first
      | (go_at_call 36; go_must (refine (turn_here HF.out.drew.swap (by rw [HQ1.out]; simp) (gen + 1) (oth : Int) (by omega) (by omega)).mono ?_; rintro e w3 ⟨rfl, h⟩; have HG := Aside0.mk h.swap; clear h)))
  all_goals
    have k6 : w3.cell? ⟨gl, 6, none⟩ = some (.int .i64 3) := lg_stage HG.out rfl
    have f6 := lg_frozen HG.out 6
    go_wp2_with fail
    go_ret2
    refine ⟨rfl, ?_⟩
    have hy := HG.out.putCell 6 (.int .i64 4)
    rw [HD1.out, HO.out] at hy
    exact hy
set_option maxHeartbeats 2000000 in
set_option maxRecDepth 100000 in
theorem Step_2 (h : Here w W (LogT gl g ⟨gen, area, tail, all, sure, 2⟩ (.slice Ap parts.length cp) :: DiskT g d :: BytesT (.slice Ap parts.length cp) parts :: Ps)) (hq : d.q.length ≤ 1000000) (ha : area ≤ 1) (hp : parts.length ≤ Sz d) :
    Calls Tryz.prog 10 #[.pointer (some ⟨gl, 0, none⟩)] W fun e W' => e = .returned (.tuple #[.int .i64 3, .int .i64 0]) ∧ Here w W' (LogT gl g ⟨gen, area, tail, all, sure, 3⟩ (.slice Ap parts.length cp) :: DiskT g (d.flush.write (plc d (1 - area) 0) parts) :: BytesT (.slice Ap parts.length cp) parts :: Ps) := by
  have HH := Aside0.mk h
  have hk := h.swap.diskOk
  have HK := Aside0.mk hk
  obtain ⟨k0, k1, k2, k3, k4, k5, _, k7⟩ := lg_cells h
  have k6 : W.cell? ⟨gl, 6, none⟩ = some (.int .i64 2) := lg_stage h rfl
  obtain ⟨oth, hoth⟩ : ∃ oth, oth = 1 - area := ⟨_, rfl⟩
  have HO := Aside0.mk hoth
  have u1 : IntKind.i64.wrap (1 - (area : Int)) = (oth : Int) := by
    rw [hoth, show (1 : Int) - (area : Int) = ((1 - area : Nat) : Int) by omega]
    exact IntWalk.i64_in _ ⟨by omega, by omega⟩
  have ho : oth ≤ 1 := by omega
  obtain ⟨d1, hd1⟩ : ∃ d1, d1 = d.flush := ⟨_, rfl⟩
  have HD1 := Aside0.mk hd1
  have HQ1 := Aside0.mk (show d1.q = [] by rw [hd1]; rfl)
  obtain ⟨p, hp1⟩ : ∃ p, p = plc d1 oth 0 := ⟨_, rfl⟩
  have HP1 := Aside0.mk hp1
  have HPP := Aside0.mk (show plc d1 oth 0 = plc d oth 0 by rw [hd1, plc_flush hk])
  have HFT := Aside0.mk (show d1.fits p parts.length by
    have hb : d1.b.length = d.b.length := by rw [hd1]; exact now_len hk
    have hlo := hk.lo
    rw [hp1, hd1, plc_flush hk]
    unfold plc Dm.fits
    rw [← hd1, hb]
    have hz2 : 2 * Sz d + 32 ≤ d.b.length := by unfold Sz; omega
    have : oth * Sz d ≤ 1 * Sz d := Nat.mul_le_mul_right _ ho
    omega)
  clear hp1 hp
  clear h hk hoth hd1
  go_enter Tryz.func10, Tryz.ntmps10
  go_wp2_with (first
    | (go_at_call 28; go_must (refine (made_here HH.out).mono ?_; rintro e w1 ⟨rfl, rfl⟩))
    | (go_at_call 32; go_must (refine (Flush_here HH.out.swap hq).mono ?_; rw [← HD1.out]; rintro e w2 ⟨rfl, h⟩; have HF := Aside0.mk h.swap; clear h k0 k1 k2 k3 k4 k5 k6 k7; obtain ⟨k0, k1, k2, k3, k4, k5, _, k7⟩ := lg_cells HF.out; have k6 : w2.cell? ⟨gl, 6, none⟩ = some (.int .i64 2) := lg_stage HF.out rfl; have f6 := lg_frozen HF.out 6)))
  clear k0 k1 k2 k3 k4 k5 k7 k6 f6
  go_region_held3 (fun w' => w'.cell? ⟨gl, 0, none⟩ = some (.pointer (some ⟨g, 0, none⟩)) ∧ w'.cell? ⟨gl, 1, none⟩ = some (.int .u32 gen) ∧ w'.cell? ⟨gl, 7, none⟩ = some (.slice Ap parts.length cp) ∧ w'.cell? ⟨gl, 2, none⟩ = some (.int .i64 area))
    (first
      | exact lg_017 HG.out
      | exact lg_017 HF.out
      | exact lg_017 HF.out.drew)
    (first
      | (go_at_call 31; go_must (refine (place_here HF.out.drew.swap oth 0 ho (by omega)).mono ?_; rw [← HP1.out]; rintro e w4 ⟨rfl, rfl⟩))
      | (go_at_call 30; go_must (refine (Write_here HF.out.drew.swap (by rw [HQ1.out]; simp) p Ap cp parts (bytes_of (Here.nth HF.out.drew 2 (by simp))) HFT.out).mono ?_; rintro e w3 ⟨rfl, h⟩; have HG := Aside0.mk h.swap; clear h)))
  all_goals
    have k6 : w3.cell? ⟨gl, 6, none⟩ = some (.int .i64 2) := lg_stage HG.out rfl
    have f6 := lg_frozen HG.out 6
    go_wp2_with fail
    go_ret2
    refine ⟨rfl, ?_⟩
    have hy := HG.out.putCell 6 (.int .i64 3)
    rw [HP1.out, HPP.out, HD1.out, HO.out] at hy
    exact hy
end
end Go.Proofs.YtmapdfommjcebaaGreat.Own
namespace Go.Proofs.YtmapdfommjcebaaGreat.Own
open Go.RowKit Go.Proofs.YtmapdfommjcebaaGreatW.PrintWords Go.Proofs.YtmapdfommjcebaaGreatW.PrintLast Go.Proofs.YtmapdfommjcebaaGreatW.PrintMore
section
variable {w W : World} {Ps : List Thing} {g gl : Nat} {d : Dm} {vp : Value} {gen : Int} {area tail all sure : Nat} {Ap : Option Addr} {cp : Nat} {parts : List Int}
set_option maxHeartbeats 16000000 in
set_option maxRecDepth 100000 in
theorem Step_4 (h : Here w W (LogT gl g ⟨gen, area, tail, all, sure, 4⟩ (.slice Ap parts.length cp) :: DiskT g d :: Ps)) (hq : d.q.length ≤ 1000000) (ha : area ≤ 1) (hg : 0 ≤ gen ∧ gen < 4294967295) :
    Calls Tryz.prog 10 #[.pointer (some ⟨gl, 0, none⟩)] W fun e W' => e = .returned (.tuple #[.int .i64 5, .int .i64 0]) ∧ Here w W' (LogT gl g ⟨gen + 1, 1 - area, parts.length, all, sure, 5⟩ (.slice none 0 0) :: DiskT g (d.flush.write (plc d area 0) (List.replicate (Sz d) 0)) :: Ps) := by
  have HH := Aside0.mk h
  have hk := h.swap.diskOk
  have HK := Aside0.mk hk
  obtain ⟨k0, k1, k2, k3, k4, k5, _, k7⟩ := lg_cells h
  have k6 : W.cell? ⟨gl, 6, none⟩ = some (.int .i64 4) := lg_stage h rfl
  obtain ⟨oth, hoth⟩ : ∃ oth, oth = 1 - area := ⟨_, rfl⟩
  have HO := Aside0.mk hoth
  have u1 : IntKind.i64.wrap (1 - (area : Int)) = (oth : Int) := by
    rw [hoth, show (1 : Int) - (area : Int) = ((1 - area : Nat) : Int) by omega]
    exact IntWalk.i64_in _ ⟨by omega, by omega⟩
  have ho : oth ≤ 1 := by omega
  obtain ⟨d1, hd1⟩ : ∃ d1, d1 = d.flush := ⟨_, rfl⟩
  have HD1 := Aside0.mk hd1
  have HQ1 := Aside0.mk (show d1.q = [] by rw [hd1]; rfl)
  have u3 : IntKind.u32.wrap (gen + 1) = gen + 1 := by
    simp [IntKind.wrap, IntKind.signed, IntKind.bits]
    omega
  have HP1 := Aside0.mk (show plc d1 area 0 = plc d area 0 by rw [hd1, plc_flush hk])
  have HS1 := Aside0.mk (show Sz d1 = Sz d by rw [hd1, Sz_flush hk])
  clear h hk hoth hd1
  go_enter Tryz.func10, Tryz.ntmps10
  go_wp2_with (first
    | (go_at_call 28; go_must (refine (made_here HH.out).mono ?_; rintro e w1 ⟨rfl, rfl⟩))
    | (go_at_call 32; go_must (refine (Flush_here HH.out.swap hq).mono ?_; rw [← HD1.out]; rintro e w2 ⟨rfl, h⟩; have HF := Aside0.mk h.swap; clear h k0 k1 k2 k3 k4 k5 k6 k7; obtain ⟨k0, k1, k2, k3, k4, k5, _, k7⟩ := lg_cells HF.out; have k6 : w2.cell? ⟨gl, 6, none⟩ = some (.int .i64 4) := lg_stage HF.out rfl; have f6 := lg_frozen HF.out 6)))
  clear k0 k1 k2 k3 k4 k5 k7 k6 f6
  go_region_held3 (fun w' => w'.cell? ⟨gl, 0, none⟩ = some (.pointer (some ⟨g, 0, none⟩)) ∧ w'.cell? ⟨gl, 1, none⟩ = some (.int .u32 gen) ∧ w'.cell? ⟨gl, 7, none⟩ = some (.slice Ap parts.length cp) ∧ w'.cell? ⟨gl, 2, none⟩ = some (.int .i64 area))
    (first
      | exact lg_017 HG.out
      | exact lg_017 HF.out
      | exact lg_017 HF.out.drew)
    (first
      | (go_at_call 35; go_must (refine (noughts_here (f := 0) HF.out.drew.swap (by rw [HQ1.out]; simp) area ha (Nat.zero_le _)).mono ?_; rintro e w3 ⟨rfl, h⟩; have HG := Aside0.mk h.swap; clear h)))
  all_goals
    obtain ⟨k0, k1, k2, k3, k4, k5, _, k7⟩ := lg_cells HG.out
    have f1 := lg_frozen HG.out 1
    have f2 := lg_frozen HG.out 2
    have f3 := lg_frozen HG.out 3
    have f6 := lg_frozen HG.out 6
    have f7 := lg_frozen HG.out 7
    have k6 : w3.cell? ⟨gl, 6, none⟩ = some (.int .i64 4) := lg_stage HG.out rfl
    have K6 := Aside0.mk k6
    have F6 := Aside0.mk f6
    clear k0 k4 k5 k6 f6 u1 hq ha hg ho
    go_wp2_with fail
    go_region
  all_goals
    have k6 := K6.out
    have f6 := F6.out
    go_wp2_with fail
    go_ret2
    refine ⟨rfl, ?_⟩
    have hy := ((((HG.out.drew.putCell 1 (.int .u32 (gen + 1))).putCell 2 (.int .i64 (oth : Int))).putCell 3 (.int .i64 (parts.length : Int))).putCell 7 (.slice none 0 0)).putCell 6 (.int .i64 5)
    rw [Nat.sub_zero] at hy
    rw [← HO.out, ← HP1.out, ← HS1.out, ← HD1.out]
    exact hy
end
end Go.Proofs.YtmapdfommjcebaaGreat.Own
namespace Go.Proofs.YtmapdfommjcebaaGreat.Own
open Go.RowKit Go.Proofs.YtmapdfommjcebaaGreatW.PrintWords Go.Proofs.YtmapdfommjcebaaGreatW.PrintLast Go.Proofs.YtmapdfommjcebaaGreatW.PrintMore
/-- Parts, then records; none: another kind, or a part behind a record. -/
def splitR : List Rec → List (List Int) → List (List Int) → Option (List (List Int) × List (List Int))
  | [], P, R => some (P, R)
  | r :: L, P, R => if r.1 = 1 ∧ R = [] then splitR L (P ++ [r.2]) R else if r.1 = 2 then splitR L P (R ++ [r.2]) else none
/-- A row of cells, each a slice of bytes that stands in w: what the row tells. -/
def RowsOf (w : World) (rows : List (List Value)) (L : List (List Int)) : Prop :=
  rows.length = L.length ∧ ∀ (j : Nat) (l : List Int), L[j]? = some l → ∃ A c, rows[j]? = some [.slice A l.length c] ∧ l.length ≤ c ∧ (Kd.int .u8).C w A l.length l
theorem RowsOf.nil (w : World) : RowsOf w [] [] := ⟨rfl, fun j r hj => by simp at hj⟩
theorem RowsOf.below {w w1 : World} {rows : List (List Value)} {L : List (List Int)} (h : RowsOf w rows L) (hb : Below w.heap.size w w1) : RowsOf w1 rows L :=
  ⟨h.1, fun j l hj => by
    obtain ⟨A, c, h1, h2, h3⟩ := h.2 j l hj
    exact ⟨A, c, h1, h2, Kd.C_below h3 hb⟩⟩
theorem RowsOf.snoc {w : World} {rows : List (List Value)} {L : List (List Int)} (h : RowsOf w rows L) {l : List Int} {A : Option Addr} {c : Nat} (hc : l.length ≤ c) (hC : (Kd.int .u8).C w A l.length l) :
    RowsOf w (rows ++ [[.slice A l.length c]]) (L ++ [l]) := by
  refine ⟨by rw [List.length_append, List.length_append, h.1]; rfl, fun j x hj => ?_⟩
  by_cases hl : j < L.length
  · rw [List.getElem?_append_left hl] at hj
    rw [List.getElem?_append_left (by rw [h.1]; exact hl)]
    exact h.2 j x hj
  · rw [List.getElem?_append_right (by omega)] at hj
    obtain ⟨h1, rfl⟩ : j = L.length ∧ l = x := by
      have := (List.getElem?_eq_some_iff.1 hj).1
      simp only [List.length_singleton] at this
      have e : j - L.length = 0 := by omega
      rw [e] at hj
      exact ⟨by omega, by simpa using hj⟩
    rw [List.getElem?_append_right (by rw [h.1]; omega), h.1, h1, Nat.sub_self]
    exact ⟨A, c, rfl, hc, hC⟩
end Go.Proofs.YtmapdfommjcebaaGreat.Own
namespace Go.Proofs.YtmapdfommjcebaaGreat.Own
open Go.RowKit Go.Proofs.YtmapdfommjcebaaGreatW.PrintWords Go.Proofs.YtmapdfommjcebaaGreatW.PrintLast Go.Proofs.YtmapdfommjcebaaGreatW.PrintMore
/-- Cells, each a slice of bytes that stands in the blocks of ok in w: what they tell. -/
def RowsF (w : World) (ok : Nat → Prop) (rows : List (List Value)) (L : List (List Int)) : Prop :=
  rows.length = L.length ∧ ∀ (j : Nat) (l : List Int), L[j]? = some l → ∃ A c, rows[j]? = some [.slice A l.length c] ∧ l.length ≤ c ∧ Kd.F (Kd.int .u8) w ok A l.length l
theorem RowsF.nil (w : World) (ok : Nat → Prop) : RowsF w ok [] [] := ⟨rfl, fun j r hj => by simp at hj⟩
theorem RowsF.snoc {w : World} {ok : Nat → Prop} {rows : List (List Value)} {L : List (List Int)} (h : RowsF w ok rows L) {l : List Int} {A : Option Addr} {c : Nat} (hc : l.length ≤ c) (hC : Kd.F (Kd.int .u8) w ok A l.length l) :
    RowsF w ok (rows ++ [[.slice A l.length c]]) (L ++ [l]) := by
  refine ⟨by rw [List.length_append, List.length_append, h.1]; rfl, fun j x hj => ?_⟩
  by_cases hl : j < L.length
  · rw [List.getElem?_append_left hl] at hj
    rw [List.getElem?_append_left (by rw [h.1]; exact hl)]
    exact h.2 j x hj
  · rw [List.getElem?_append_right (by omega)] at hj
    obtain ⟨h1, rfl⟩ : j = L.length ∧ l = x := by
      have := (List.getElem?_eq_some_iff.1 hj).1
      simp only [List.length_singleton] at this
      have e : j - L.length = 0 := by omega
      rw [e] at hj
      exact ⟨by omega, by simpa using hj⟩
    rw [List.getElem?_append_right (by rw [h.1]; omega), h.1, h1, Nat.sub_self]
    exact ⟨A, c, rfl, hc, hC⟩
/-- One record of many that are only read. -/
theorem recF_at {w : World} {ok : Nat → Prop} {A : Option Addr} {n : Nat} {L : List Rec} (h : Kd.F WK w ok A n L) (i : Nat) (hi : i < L.length) (hn : n = L.length) :
    ∃ ad A3 c3, A = some ad ∧ w.cell? (ad.add (i * 2)) = some (.int .i64 L[i].1) ∧ w.cell? ⟨(ad.add (i * 2)).block, (ad.add (i * 2)).off + 1, none⟩ = some (.slice A3 L[i].2.length c3) ∧
      L[i].2.length ≤ c3 ∧ Kd.F (Kd.int .u8) w ok A3 L[i].2.length L[i].2 := by
  obtain ⟨ad, c, e, _, hK, hc0, _⟩ := Kd.F_get h (0, []) (i : Int) (by omega) (by omega)
  have e0 : L.getD (i : Int).toNat (0, []) = L[i] := by
    rw [Int.toNat_natCast]
    simp [List.getD_eq_getElem?_getD, List.getElem?_eq_getElem hi]
  rw [e0] at hK
  have hc : ∀ j u, c[j]? = some u → w.cell? (ad.add (i * 2 + j)) = some u := hc0
  obtain ⟨_, _, rfl, rfl, A3, c3, rfl, l3, g3⟩ := Kd.FK_now hK
  refine ⟨ad, A3, c3, e, hc 0 _ rfl, ?_, l3, fun W' hW => ?_⟩
  · rw [← add_field _ _ 1 (by omega)]; exact hc 1 _ rfl
  · obtain ⟨a0, a1, e1, e2, A4, c4, e3, l4, g4⟩ := hK W' hW
    subst e2 e3
    simp only [List.cons_append, List.nil_append, List.cons.injEq, and_true] at e1
    obtain ⟨_, e1⟩ := e1
    injection e1 with e1 _ _
    rw [e1]
    exact g4
/-- A row of cells that tell bytes: as a row of rows that is only read. -/
theorem rows_F {w W : World} {ok okr : Nat → Prop} {A : Option Addr} {rows : List (List Value)} {L : List (List Int)} (hR : Kd.F (Kd.raw 1) W okr A rows.length rows) (h : RowsF w ok rows L) (hb : Below w.heap.size w W) :
    Kd.F BL W (fun k => okr k ∨ (ok k ∧ k < w.heap.size)) A L.length L := by
  intro W' hW
  have hC : (Kd.raw 1).C W' A rows.length rows := hR W' (fun k hk hlt => hW k (.inl hk) hlt)
  have hm : ∀ k, ok k → k < w.heap.size → W'.heap[k]? = w.heap[k]? := fun k hk hlt => (hW k (.inr ⟨hk, hlt⟩) (Nat.lt_of_lt_of_le hlt hb.size)).trans (hb.block k hlt)
  obtain ⟨h1, h2, h3⟩ := hC
  refine ⟨rfl, by rw [← h.1]; exact h2, fun h0 => ?_⟩
  obtain ⟨ad, e, hc⟩ := h3 (by rw [h.1]; exact h0)
  refine ⟨ad, e, fun j l hj => ?_⟩
  obtain ⟨A4, c4, g1, g2, g3⟩ := h.2 j l hj
  obtain ⟨c, hl, hK, hcc⟩ := hc j _ g1
  obtain ⟨rfl, _, _⟩ := hK
  exact ⟨_, hl, ⟨A4, c4, rfl, g2, g3 W' hm⟩, hcc⟩
theorem slice_one (A : Option Addr) (n c : Nat) : ∀ u ∈ [Value.slice A n c], u.oneCell' = true := by
  intro u hu
  rw [List.mem_singleton.1 hu]
  rfl
section
variable {w W : World} {Ps : List Thing} {v : Value} {rows : List (List Value)} {ops : Array Oper} {rest : List Oper} {o : Oper} {a : Act} {Q : Exit → Act → World → Prop}
/-- append(parts, r.Data). -/
theorem rows_app (H : Here w W (RawT 1 29 v rows :: Ps)) (hgd : o.guard = none) (s x : Operand) (ho : o.op = .call { callee := .builtin .append, args := #[s, x], argTypes := #[23, 23] })
    (A : Option Addr) (n c : Nat) (g : Nat) (hs : a.eval s = v) (hx : a.eval x = .slice (some ⟨g, 0, none⟩) 1 1) (hb : W.heap[g]? = some (.cells #[.slice A n c] 29 (0, 0))) (hl : rows.length ≤ 1000000)
    (h : ∀ v1 w1, Here w w1 (RawT 1 29 v1 (rows ++ [[.slice A n c]]) :: Ps) → wpList Tryz.prog ops Q rest (a.put o.dst v1) w1) :
    wpList Tryz.prog ops Q (o :: rest) a W :=
  raw_app1 1 23 29 (.slice none 0 0) 24 H hgd s x ho Tryz.underlying23 info22 rfl (by decide) (by decide) [[.slice A n c]] _ 1 1 hs hx (raw_lit (cs := [.slice A n c]) hb rfl (slice_one A n c)) (by omega) (fun v1 w1 h1 _ => h v1 w1 h1)
end
theorem splitR_part {k : Int} {l : List Int} {L : List Rec} {P R : List (List Int)} (h1 : k = 1) (h2 : R = []) : splitR ((k, l) :: L) P R = splitR L (P ++ [l]) R := by
  rw [splitR, if_pos ⟨h1, h2⟩]
theorem splitR_rec {k : Int} {l : List Int} {L : List Rec} {P R : List (List Int)} (h1 : k = 2) : splitR ((k, l) :: L) P R = splitR L P (R ++ [l]) := by
  rw [splitR, if_neg (by simp only; omega), if_pos h1]
theorem splitR_no {k : Int} {l : List Int} {L : List Rec} {P R : List (List Int)} (h1 : ¬ (k = 1 ∧ R = [])) (h2 : ¬ k = 2) : splitR ((k, l) :: L) P R = none := by
  rw [splitR, if_neg h1, if_neg h2]
theorem drop_at {α : Type} {L : List α} {k : Nat} (hk : k < L.length) : L.drop k = L[k] :: L.drop (k + 1) := (List.drop_eq_getElem_cons hk)
end Go.Proofs.YtmapdfommjcebaaGreat.Own
namespace Go.Proofs.YtmapdfommjcebaaGreat.Own
open Go.RowKit Go.Proofs.YtmapdfommjcebaaGreatW.PrintWords Go.Proofs.YtmapdfommjcebaaGreatW.PrintLast Go.Proofs.YtmapdfommjcebaaGreatW.PrintMore
/-- The generation that a slot's bytes tell. -/
def genB (s : List Int) : Int := s.getD 1 0 * 16777216 + s.getD 2 0 * 65536 + s.getD 3 0 * 256 + s.getD 4 0
/-- What slot i tells: its generation and its area; 0, 0: nothing. -/
def toldR (s : List Int) (i : Nat) : Int × Nat :=
  if genB s ≠ 0 ∧ genB s % 2 = i ∧ s.getD 5 0 < 2 ∧ slotB (genB s) (s.getD 5 0) = s then (genB s, (s.getD 5 0).toNat) else (0, 0)
theorem or_u32 (s : Nat) (x y : Int) (h0 : 0 ≤ x) (hd : x % 2 ^ s = 0) (hx : x < 4294967296) (h1 : 0 ≤ y) (h2 : y < 2 ^ s) (h3 : x + y < 4294967296) : bits .or .u32 x y = x + y := by
  have e32 : (2 : Int) ^ 32 = 4294967296 := by decide
  exact bits_join .u32 32 (by decide) (fun n a b => by
    rw [e32] at b
    simp [IntKind.wrap, IntKind.signed, IntKind.bits]
    omega) s x y h0 hd (by rw [e32]; exact hx) h1 h2 (by rw [e32]; omega)
theorem Equal_n (A0 A1 : Option Addr) (c0 c1 n1 : Nat) (l0 l1 : List Int) (w : World) (h0 : (Kd.int .u8).C w A0 l0.length l0) (h1 : (Kd.int .u8).C w A1 l1.length l1) (k0 : l0.length ≤ c0) (k1 : l1.length ≤ c1) (hm : l0.length ≤ 9223372036854775806) (hn : n1 = l1.length) :
    Calls Tryz.prog 64 #[.slice A0 l0.length c0, .slice A1 n1 c1] w fun e w' => e = .returned (.bool (decide (l0 = l1))) ∧ Drawn0 w w' := by
  subst hn
  exact Equal_calls A0 A1 c0 c1 l0 l1 w h0 h1 k0 k1 hm
section
variable {w W : World} {Ps : List Thing} {g : Nat} {d : Dm}
end
end Go.Proofs.YtmapdfommjcebaaGreat.Own
namespace Go.Proofs.YtmapdfommjcebaaGreat.Own
open Go.RowKit Go.Proofs.YtmapdfommjcebaaGreatW.PrintWords Go.Proofs.YtmapdfommjcebaaGreatW.PrintLast Go.Proofs.YtmapdfommjcebaaGreatW.PrintMore
section
variable {w W : World} {Ps : List Thing} {g : Nat} {d : Dm}
theorem cellsA_of {g : Nat} {a b : Value} {t : TypeId} (h : Here w W (CellsT g #[a, b] t :: Ps)) : W.cell? ⟨g, 0, none⟩ = some a ∧ W.cell? ⟨g, 1, none⟩ = some b ∧ W.frozen? ⟨g, 0, none⟩ = false ∧ W.frozen? ⟨g, 1, none⟩ = false ∧ g < W.heap.size :=
  ⟨cell_of_row W g 0 _ _ _ h.cells, cell_of_row W g 1 _ _ _ h.cells, blk_frozen h.cells 0, blk_frozen h.cells 1, blk_lt h.cells⟩
set_option maxHeartbeats 4000000 in
set_option maxRecDepth 100000 in
theorem Areas_here (h : Here w W (DiskT g d :: Ps)) (hq : d.q.length ≤ 1000000) :
    Calls Tryz.prog 11 #[.pointer (some ⟨g, 0, none⟩)] W fun e W' => ∃ v0 v1, e = .returned (.tuple #[.agg #[v0, v1], .int .i64 0]) ∧ Here w W' (DiskT g d :: BytesT v0 (d.read (plc d 0 0) (Sz d)) :: BytesT v1 (d.read (plc d 1 0) (Sz d)) :: Ps) := by
  have HH := Aside0.mk ((h.newCells #[.slice none 0 0, .slice none 0 0] 49).newCells #[.slice none 0 0, .slice none 0 0] 49)
  have hz2 : 2 * Sz d + 32 ≤ d.b.length := by unfold Sz; have := h.diskOk.lo; omega
  obtain ⟨z, hz⟩ : ∃ z, z = Sz d := ⟨_, rfl⟩
  rw [← hz] at hz2
  have HZ := Aside0.mk hz
  obtain ⟨p0, hp0⟩ : ∃ p, p = plc d 0 0 := ⟨_, rfl⟩
  obtain ⟨p1, hp1⟩ : ∃ p, p = plc d 1 0 := ⟨_, rfl⟩
  have HP0 := Aside0.mk hp0
  have HP1 := Aside0.mk hp1
  have HF0 := Aside0.mk (show d.fits p0 z by rw [hp0]; unfold plc Dm.fits; rw [← hz]; omega)
  have HF1 := Aside0.mk (show d.fits p1 z by rw [hp1]; unfold plc Dm.fits; rw [← hz]; omega)
  clear h hz hp0 hp1
  have e : (W.alloc (.cells #[.slice none 0 0, .slice none 0 0] 49)).heap.size = W.heap.size + 1 := by simp
  rw [e] at HH
  clear e
  go_enter Tryz.func11, Tryz.ntmps11
  go_wp2_with fail
  go_loopw [8] (fun v8 wr => ∃ (v0 v1 : Value) (i : Nat) (Qs : List Thing), v8 = .int .i64 i ∧ Aside0 (Here w wr (CellsT (W.heap.size + 1) #[v0, v1] 49 :: CellsT W.heap.size #[.slice none 0 0, .slice none 0 0] 49 :: DiskT g d :: Qs)) ∧
      Aside0 ((i = 0 ∧ Qs = Ps) ∨ (i = 1 ∧ Qs = BytesT v0 (d.read p0 z) :: Ps) ∨ (i = 2 ∧ Qs = BytesT v1 (d.read p1 z) :: BytesT v0 (d.read p0 z) :: Ps))) (fun v8 _ => 2 - (intOf v8).toNat)
  case atStart => exact ⟨_, _, 0, Ps, rfl, HH, ⟨.inl ⟨rfl, rfl⟩⟩⟩
  case round =>
    clear HH
    obtain ⟨v0, v1, i, Qs, rfl, HI, HQ⟩ := hrel
    rcases HQ.out with ⟨rfl, rfl⟩ | ⟨rfl, rfl⟩ | ⟨rfl, rfl⟩
    · have q1 : decide ((0 : Int) < 2) = true := by decide
      obtain ⟨e0, e1, f0, f1, el⟩ := cellsA_of HI.out
      go_wp2_with (first
        | (go_at_call 31; go_must (refine (place_here (Here.nth HI.out 2 (by simp)) 0 0 (by omega) (by omega)).mono ?_; rw [← HP0.out]; rintro e w1 ⟨rfl, rfl⟩))
        | (go_at_call 34; go_must (refine (size_here (Here.nth HI.out 2 (by simp))).mono ?_; rw [← HZ.out]; rintro e w1 ⟨rfl, rfl⟩))
        | (go_at_call 37; go_must (refine (Read_here (Here.nth HI.out 2 (by simp)) hq _ z HF0.out).mono ?_; rintro e w2 ⟨v, rfl, h⟩; obtain ⟨A6, c6, hv, k6, _⟩ := h.bytes.slice; obtain ⟨n6, hn6⟩ : ∃ n6, n6 = (d.read p0 z).length := ⟨_, rfl⟩; rw [← hn6] at hv; clear k6 hn6; subst hv; have HJ := Aside0.mk (Here.nth h 2 (by simp)); clear h e0 e1 f0 f1 el; obtain ⟨e0, e1, f0, f1, el⟩ := cellsA_of HJ.out)))
      have hy := HJ.out.putCell 0 (.slice A6 n6 c6)
      have HY := Aside0.mk (Here.nth (Here.nth (Here.nth (Here.nth hy 3 (by simp)) 3 (by simp)) 1 (by simp)) 2 (by simp))
      clear hy
      go_roundw
      case rel => exact ⟨_, _, 1, _, rfl, HY, ⟨.inr (.inl ⟨rfl, rfl⟩)⟩⟩
      case measure => simp [intOf]
    · have q1 : decide ((1 : Int) < 2) = true := by decide
      obtain ⟨e0, e1, f0, f1, el⟩ := cellsA_of HI.out
      go_wp2_with (first
        | (go_at_call 31; go_must (refine (place_here (Here.nth HI.out 2 (by simp)) 1 0 (by omega) (by omega)).mono ?_; rw [← HP1.out]; rintro e w1 ⟨rfl, rfl⟩))
        | (go_at_call 34; go_must (refine (size_here (Here.nth HI.out 2 (by simp))).mono ?_; rw [← HZ.out]; rintro e w1 ⟨rfl, rfl⟩))
        | (go_at_call 37; go_must (refine (Read_here (Here.nth HI.out 2 (by simp)) hq _ z HF1.out).mono ?_; rintro e w2 ⟨v, rfl, h⟩; obtain ⟨A6, c6, hv, k6, _⟩ := h.bytes.slice; obtain ⟨n6, hn6⟩ : ∃ n6, n6 = (d.read p1 z).length := ⟨_, rfl⟩; rw [← hn6] at hv; clear k6 hn6; subst hv; have HJ := Aside0.mk (Here.nth h 2 (by simp)); clear h e0 e1 f0 f1 el; obtain ⟨e0, e1, f0, f1, el⟩ := cellsA_of HJ.out)))
      have hy := HJ.out.putCell 1 (.slice A6 n6 c6)
      have HY := Aside0.mk (Here.nth (Here.nth (Here.nth (Here.nth hy 3 (by simp)) 3 (by simp)) 1 (by simp)) 2 (by simp))
      clear hy
      go_roundw
      case rel => exact ⟨_, _, 2, _, rfl, HY, ⟨.inr (.inr ⟨rfl, rfl⟩)⟩⟩
      case measure => simp [intOf]
    · have q1 : decide ((2 : Int) < 2) = false := by decide
      obtain ⟨A1, c1, hv1, k1, _⟩ := (Here.nth HI.out 3 (by simp)).bytes.slice
      obtain ⟨A0, c0, hv0, k0, _⟩ := (Here.nth HI.out 4 (by simp)).bytes.slice
      obtain ⟨n1, hn1⟩ : ∃ n1, n1 = (d.read p1 z).length := ⟨_, rfl⟩
      obtain ⟨n0, hn0⟩ : ∃ n0, n0 = (d.read p0 z).length := ⟨_, rfl⟩
      rw [← hn1] at hv1
      rw [← hn0] at hv0
      clear k0 k1 hn0 hn1
      subst hv0 hv1
      obtain ⟨e0, e1, f0, f1, el⟩ := cellsA_of HI.out
      obtain ⟨r0, r1, s0, s1, rl⟩ := cellsA_of HI.out.swap
      go_wp2_with fail
      have HY := Aside0.mk ((HI.out.swap.putCell 0 (.slice A0 n0 c0)).putCell 1 (.slice A1 n1 c1))
      refine bodyPost_ret (results_ct rfl _ _ W.heap.size 49 #[.slice A0 n0 c0, .slice A1 n1 c1] (0, 0) _ rfl HY.out.cells Tryz.underlying49 rfl (by kernel_rfl)) rfl ?_
      rw [← HZ.out, ← HP0.out, ← HP1.out]
      exact ⟨_, _, rfl, HY.out.drop.drop.third.swap⟩
end
end Go.Proofs.YtmapdfommjcebaaGreat.Own
namespace Go.Proofs.YtmapdfommjcebaaGreat.Own
open Go.RowKit
def Byt (l : List Int) : Prop := ∀ x ∈ l, 0 ≤ x ∧ x < 256
theorem Byt.nil : Byt [] := fun x hx => by simp at hx
theorem Byt.append {a b : List Int} (ha : Byt a) (hb : Byt b) : Byt (a ++ b) := fun x hx => (List.mem_append.1 hx).elim (ha x) (hb x)
theorem Byt.cons {x : Int} {b : List Int} (h0 : 0 ≤ x) (h1 : x < 256) (hb : Byt b) : Byt (x :: b) := fun y hy => by
  rcases List.mem_cons.1 hy with rfl | hy
  · exact ⟨h0, h1⟩
  · exact hb y hy
theorem Byt.take {a : List Int} (h : Byt a) (n : Nat) : Byt (a.take n) := fun x hx => h x (List.mem_of_mem_take hx)
theorem Byt.drop {a : List Int} (h : Byt a) (n : Nat) : Byt (a.drop n) := fun x hx => h x (List.mem_of_mem_drop hx)
theorem Byt.zeros (n : Nat) : Byt (List.replicate n 0) := fun x hx => by
  rw [List.eq_of_mem_replicate hx]
  omega
theorem Byt.four (x : Int) : Byt (fourB x) := by
  unfold fourB
  exact Byt.cons (by omega) (by omega) (Byt.cons (by omega) (by omega) (Byt.cons (by omega) (by omega) (Byt.cons (by omega) (by omega) Byt.nil)))
theorem Byt.slot (gen area : Int) : Byt (slotB gen area) := by
  unfold slotB
  exact ((((Byt.cons (by omega) (by omega) Byt.nil).append (Byt.four gen)).append (Byt.cons (by omega) (by omega) Byt.nil)).append (Byt.zeros 6)).append (Byt.four gen)
theorem Byt.get {a : List Int} (h : Byt a) (i : Nat) : 0 ≤ a.getD i 0 ∧ a.getD i 0 < 256 := by
  rw [List.getD_eq_getElem?_getD]
  by_cases hi : i < a.length
  · rw [List.getElem?_eq_getElem hi]
    exact h _ (List.getElem_mem hi)
  · rw [List.getElem?_eq_none (by omega)]
    simp
theorem putAll_byt (l : List (Nat × Int)) : ∀ (b : List Int), Byt b → (∀ p ∈ l, 0 ≤ p.2 ∧ p.2 < 256) → Byt (putAll b l) := by
  induction l with
  | nil => intro b hb _; exact hb
  | cons p l ih =>
    intro b hb hl
    refine ih (b.set p.1 p.2) (fun x hx => ?_) (fun q hq => hl q (List.mem_cons_of_mem _ hq))
    rcases List.mem_or_eq_of_mem_set hx with hx | rfl
    · exact hb x hx
    · exact hl p List.mem_cons_self
structure ByD (d : Dm) : Prop where
  b : Byt d.b
  q : ∀ w ∈ d.q, Byt w.2
theorem pend_byt {d : Dm} (h : ByD d) : ∀ p ∈ pend d.q, 0 ≤ p.2 ∧ p.2 < 256 := by
  intro p hp
  unfold pend at hp
  rw [List.mem_flatMap] at hp
  obtain ⟨w, hw, hp⟩ := hp
  unfold pendOf at hp
  rw [List.mem_map] at hp
  obtain ⟨c, hc, rfl⟩ := hp
  exact h.q w hw _ (List.fst_mem_of_mem_zipIdx hc)
theorem ByD.now {d : Dm} (h : ByD d) (ho : d.Ok) : Byt d.now := by
  rw [Dm.now_eq ho]
  exact putAll_byt _ _ h.b (pend_byt h)
theorem ByD.read {d : Dm} (h : ByD d) (ho : d.Ok) (p n : Nat) : Byt (d.read p n) := ((h.now ho).drop p).take n
theorem ByD.write {d : Dm} (h : ByD d) (p : Int) {l : List Int} (hl : Byt l) : ByD (d.write p l) :=
  ⟨h.b, fun w hw => by
    rcases List.mem_append.1 hw with hw | hw
    · exact h.q w hw
    · rw [List.mem_singleton.1 hw]
      exact hl⟩
theorem ByD.flush {d : Dm} (h : ByD d) (ho : d.Ok) : ByD d.flush := ⟨h.now ho, fun w hw => by simp [Dm.flush] at hw⟩
theorem ByD.settle {d : Dm} (h : ByD d) (last : Int) : ByD (d.settle last) :=
  ⟨putAll_byt _ _ h.b (fun p hp => pend_byt h p (List.mem_of_mem_take hp)), fun w hw => by simp [Dm.settle] at hw⟩
theorem ByD.new (n : Nat) : ByD (Dm.new n) := ⟨Byt.zeros n, fun w hw => by simp [Dm.new] at hw⟩
theorem ok_format {d : Dm} (h : d.Ok) : d.format.Ok := by
  have h1 : (d.write 0 (List.replicate d.b.length 0)).Ok := Dm.ok_write h ⟨by omega, by omega, by rw [List.length_replicate]; omega⟩
  exact Dm.ok_flush (Dm.ok_write h1 ⟨by omega, by omega, by rw [slotB_len]; have := h.lo; show _ ≤ (d.b.length : Int); omega⟩)
theorem ByD.format {d : Dm} (h : ByD d) (ho : d.Ok) : ByD d.format := by
  have h1 : (d.write 0 (List.replicate d.b.length 0)).Ok := Dm.ok_write ho ⟨by omega, by omega, by rw [List.length_replicate]; omega⟩
  exact ((h.write 0 (Byt.zeros _)).write 16 (Byt.slot 1 0)).flush (Dm.ok_write h1 ⟨by omega, by omega, by rw [slotB_len]; have := ho.lo; show _ ≤ (d.b.length : Int); omega⟩)
theorem read_length {d : Dm} (ho : d.Ok) {p n : Nat} (h : p + n ≤ d.b.length) : (d.read p n).length = n := by
  unfold Dm.read
  rw [List.length_take, List.length_drop, Dm.now_length ho]
  omega
/-- What slots tell. -/
theorem genB_range {s : List Int} (h : Byt s) : 0 ≤ genB s ∧ genB s < 4294967296 := by
  have h1 := h.get 1
  have h2 := h.get 2
  have h3 := h.get 3
  have h4 := h.get 4
  unfold genB
  omega
theorem told_range {s : List Int} (h : Byt s) (i : Nat) : (0 ≤ (toldR s i).1 ∧ (toldR s i).1 < 4294967296) ∧ (toldR s i).2 ≤ 1 := by
  have h1 := genB_range h
  have h5 := h.get 5
  unfold toldR
  by_cases hc : genB s ≠ 0 ∧ genB s % 2 = i ∧ s.getD 5 0 < 2 ∧ slotB (genB s) (s.getD 5 0) = s
  · rw [if_pos hc]
    exact ⟨h1, by show (s.getD 5 0).toNat ≤ 1; omega⟩
  · rw [if_neg hc]
    exact ⟨⟨by simp, by simp⟩, by simp⟩
/-- The generation and the area that a disk's slots tell. -/
def slotsG (d : Dm) : Int × Nat := if (toldR (d.read 0 16) 0).1 < (toldR (d.read 16 16) 1).1 then toldR (d.read 16 16) 1 else toldR (d.read 0 16) 0
theorem slots_range {d : Dm} (h : ByD d) (ho : d.Ok) : (0 ≤ (slotsG d).1 ∧ (slotsG d).1 < 4294967296) ∧ (slotsG d).2 ≤ 1 := by
  unfold slotsG
  by_cases hc : (toldR (d.read 0 16) 0).1 < (toldR (d.read 16 16) 1).1
  · rw [if_pos hc]; exact told_range (h.read ho _ _) _
  · rw [if_neg hc]; exact told_range (h.read ho _ _) _
/-- An area's bytes. -/
def areaB (d : Dm) (a : Nat) : List Int := d.read (plc d a 0) (Sz d)
theorem plc_fits {d : Dm} (ho : d.Ok) {a : Nat} (ha : a ≤ 1) {f : Nat} (hf : f ≤ Sz d) : plc d a f + (Sz d - f) ≤ d.b.length := by
  have h1 : a * Sz d ≤ 1 * Sz d := Nat.mul_le_mul_right _ ha
  have h2 : 2 * Sz d + 32 ≤ d.b.length := by unfold Sz; have := ho.lo; omega
  unfold plc
  omega
theorem area_len {d : Dm} (ho : d.Ok) {a : Nat} (ha : a ≤ 1) : (areaB d a).length = Sz d := by
  have := plc_fits ho ha (f := 0) (by omega)
  exact read_length ho (by omega)
end Go.Proofs.YtmapdfommjcebaaGreat.Own
namespace Go.Proofs.YtmapdfommjcebaaGreat.Own
open Go.RowKit Go.Proofs.YtmapdfommjcebaaGreatW.PrintWords Go.Proofs.YtmapdfommjcebaaGreatW.PrintLast Go.Proofs.YtmapdfommjcebaaGreatW.PrintMore
/-- Two rows of bytes that are only read; both may lead into the same blocks. -/
def TwoT (vp : Value) (P : List (List Int)) (vr : Value) (R : List (List Int)) : Thing where
  at_ W S := (∃ A c, vp = .slice A P.length c ∧ Kd.F BL W S A P.length P) ∧ (∃ A c, vr = .slice A R.length c ∧ Kd.F BL W S A R.length R) ∧ ∀ k, S k → k < W.heap.size
  chg h hc hn := by
    obtain ⟨⟨A, c, e, hF⟩, ⟨B, c', e', hG⟩, hl⟩ := h
    exact ⟨⟨A, c, e, F_chg hF hc hn⟩, ⟨B, c', e', F_chg hG hc hn⟩, fun k hk => Nat.lt_of_lt_of_le (hl k hk) hc.size⟩
  lt h := h.2.2
section
variable {w W : World} {Ps : List Thing} {v vp vr : Value} {P R : List (List Int)} {L : List Rec}
theorem Here.two (h : Here w W (TwoT vp P vr R :: Ps)) : ∃ A c B c', vp = .slice A P.length c ∧ vr = .slice B R.length c' ∧ BL.C W A P.length P ∧ BL.C W B R.length R := by
  obtain ⟨S, ⟨⟨A, c, e, hF⟩, ⟨B, c', e', hG⟩, _⟩, _⟩ := h.get
  exact ⟨A, c, B, c', e, e', Kd.F_now hF, Kd.F_now hG⟩
end
theorem results_tmp4 {fn : Func} {t u v x : Tmp} (h : fn.results = #[.tmp t, .tmp u, .tmp v, .tmp x]) (tmps : Array Value) (P : Program) (w : World) :
    (results fn tmps).run P w = .ok (.tuple #[tmps.getD t undef, tmps.getD u undef, tmps.getD v undef, tmps.getD x undef]) w := by
  simp [results, h]
section
variable {w W : World} {Ps : List Thing} {g : Nat} {d : Dm}
/-- What the slots tell, as the walk asks for it. -/
theorem slots_ways {g0 g1 : Int} {a0 a1 : Nat} (h0 : (g0, a0) = toldR (d.read 0 16) 0) (h1 : (g1, a1) = toldR (d.read 16 16) 1) {gen : Int} {area : Nat} (hs : slotsG d = (gen, area)) :
    (decide (g0 < g1) = true ∧ g0 < g1 ∧ gen = g1 ∧ area = a1) ∨ (decide (g0 < g1) = false ∧ ¬ g0 < g1 ∧ gen = g0 ∧ area = a0) := by
  unfold slotsG at hs
  rw [← h0, ← h1] at hs
  by_cases hc : g0 < g1
  · rw [if_pos hc] at hs
    injection hs with e1 e2
    exact .inl ⟨decide_eq_true hc, hc, e1.symm, e2.symm⟩
  · rw [if_neg hc] at hs
    injection hs with e1 e2
    exact .inr ⟨decide_eq_false hc, hc, e1.symm, e2.symm⟩
end
end Go.Proofs.YtmapdfommjcebaaGreat.Own
namespace Go.Proofs.YtmapdfommjcebaaGreat.Own
open Go.RowKit
theorem readR_few (b : List Int) : (readR b).1.length ≤ (readR b).2.1 := by
  induction hn : b.length using Nat.strongRecOn generalizing b with
  | ind n ih =>
    by_cases h : 0 < (nextR b).2.1
    · have hl := next_le h
      rw [readR_step h]
      have := ih (b.drop (nextR b).2.1).length (by rw [List.length_drop]; omega) _ rfl
      simp only [List.length_cons]
      omega
    · rw [readR_stop (by omega)]
      exact Nat.le_refl _
def av0 : Dm := (Dm.new 400).format
def av1 : Dm := av0.write (plc av0 0 0) (frameR (2, [97, 98]))
def av2 : Dm := av1.flush
def av3 : Dm := av2.write (plc av2 0 11) (frameR (2, [99]))
def av4 : Dm := av3.settle 3
def av5 : Dm := av4.write (plc av4 0 11) (List.replicate (Sz av4 - 11) 0)
def avP : List Int := framesOf (recsOf 1 [[115, 116, 97, 116, 101]])
def av6 : Dm := av5.flush.write (plc av5 1 0) (List.replicate (Sz av5) 0)
def av7 : Dm := av6.flush.write (plc av6 1 0) avP
def av8 : Dm := av7.flush.write ((1 + 1) % 2 * 16) (slotB (1 + 1) 1)
def av9 : Dm := av8.flush.write (plc av8 0 0) (List.replicate (Sz av8) 0)
def av10 : Dm := av9.flush
theorem av_slots4 : slotsG av4 = (1, 0) := by decide +kernel
theorem av_read4 : readR (areaB av4 0) = ([(2, [97, 98])], 11, 0) := by decide +kernel
theorem av_slots10 : slotsG av10 = (2, 1) := by decide +kernel
theorem av_read10 : readR (areaB av10 1) = ([(1, [115, 116, 97, 116, 101])], 14, 0) := by decide +kernel
theorem av_area0 : av10.read (plc av10 0 0) (Sz av10) = List.replicate 184 0 := by decide +kernel
end Go.Proofs.YtmapdfommjcebaaGreat.Own
