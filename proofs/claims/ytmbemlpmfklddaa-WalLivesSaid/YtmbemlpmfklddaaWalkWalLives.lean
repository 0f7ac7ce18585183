/- The walk of WalLives: a log does what the document says; one that is nil, or that no call made, says so. -/
import Derived.Test.YtmbemlpmfklddaaDoC
import Derived.Test.YtmbemlpmfklddaaDoD
import Derived.Test.YtmbemlpmfklddaaLog9
namespace Go.Proofs.Ytmbemlpmfklddaa.Own
open Go.RowKit Go.Proofs.YtmbemlpmfklddaaW.PrintWords Go.Proofs.YtmbemlpmfklddaaW.PrintLast Go.Proofs.YtmbemlpmfklddaaW.PrintMore
theorem op15_at {w : World} {A : Option Addr} {xs : List Op14} (h : Kd.C k83 w A xs.length xs) (q : ∀ x ∈ xs, Q83 x) (i : Nat) (hi : i < xs.length) : ∃ ad kd la b L A2 c2 A3 c3, A = some ad ∧ b.length ≤ c2 ∧ Byt b ∧ (∀ y ∈ L, Byt y) ∧
    (Kd.int .u8).C w A2 b.length b ∧ BL.C w A3 L.length L ∧ (-9223372036854775808 ≤ la ∧ la ≤ 9223372036854775807) ∧
    (∀ W' : World, Below w.heap.size w W' → W'.cell? (ad.add (i * 4)) = some (.int .i64 kd) ∧ W'.cell? ⟨(ad.add (i * 4)).block, (ad.add (i * 4)).off + 1, none⟩ = some (.int .i64 la) ∧
      W'.cell? ⟨(ad.add (i * 4)).block, (ad.add (i * 4)).off + 2, none⟩ = some (.slice A2 b.length c2) ∧ W'.cell? ⟨(ad.add (i * 4)).block, (ad.add (i * 4)).off + 3, none⟩ = some (.slice A3 L.length c3)) := by
  obtain ⟨ad, A2, c2, A3, c3, e, e0, e1, e2, e3, k2, C2, C3⟩ := at83 h i hi rfl
  have hq := q _ (List.getElem_mem hi)
  exact ⟨ad, _, _, _, _, A2, c2, A3, c3, e, k2, hq.2.2.1, hq.2.2.2, C2, C3, hq.2.1, fun W' hb => ⟨pw_cell_below hb e0, pw_cell_below hb e1, pw_cell_below hb e2, pw_cell_below hb e3⟩⟩
theorem format_len (n : Nat) (h1 : 64 ≤ n) (h2 : n ≤ 262144) : (Dm.new n).format.b.length = n := by
  have ho : (Dm.new n).Ok := Dm.ok_new h1 h2
  have hb : (Dm.new n).b.length = n := by simp [Dm.new]
  have o1 : ((Dm.new n).write 0 (List.replicate (Dm.new n).b.length 0)).Ok := Dm.ok_write ho ⟨by omega, by omega, by rw [List.length_replicate]; omega⟩
  have o2 : (((Dm.new n).write 0 (List.replicate (Dm.new n).b.length 0)).write 16 (slotB 1 0)).Ok := Dm.ok_write o1 ⟨by omega, by omega, by rw [slotB_len]; show _ ≤ ((Dm.new n).b.length : Int); omega⟩
  exact (Dm.now_length o2).trans hb
/-- What holds between ops. -/
def LivJ (w wr : World) (g gx z n i : Nat) (v7 v9 : Value) : Prop :=
  ∃ (gl gr : Nat) (x : Lg) (d : Dm) (pb : List Int) (sp : ByteArray) (va vt : Value) (P N R : List (List Int)) (Ps : List Thing), v7 = .pointer (some ⟨gl, 0, none⟩) ∧ v9 = .pointer (some ⟨gr, 0, none⟩) ∧
    LivW w wr gl g gr gx x d pb x sp d va vt Ps ∧ (1 ≤ x.stage → x.stage ≤ 4 → sp = strOfNums pb) ∧ LivI x d pb P N R z i ∧ d.b.length = n
def zeroC : Array Value := #[.pointer none, .int .u32 0, .int .i64 0, .int .i64 0, .int .i64 0, .int .i64 0, .int .i64 0, .slice none 0 0]
theorem zero_at {w W : World} {gz : Nat} {Ps : List Thing} (h : Here w W (CellsT gz zeroC 103 :: Ps)) : W.cell? ⟨gz, 0, none⟩ = some (.pointer none) ∧ W.cell? ⟨gz, 5, none⟩ = some (.int .i64 0) :=
  ⟨cell_of_row W gz 0 _ _ _ h.cells, cell_of_row W gz 5 _ _ _ h.cells⟩
section
variable {w W W' : World} {Ps : List Thing} {gl g gr gx : Nat} {x xr : Lg} {d dr : Dm} {pb : List Int} {sp : ByteArray} {va vt : Value}
theorem LivRead_e (h : LivW w W gl g gr gx x d pb xr sp dr va vt Ps) (hq : d.q.length ≤ 998000) (n : Nat) (hn : n = d.b.length) (ho : d.Ok) :
    Calls Try.prog 24 #[.pointer (some ⟨g, 0, none⟩), .int .i64 0, .int .i64 n] W fun e W' => ∃ A c, e = .returned (.tuple #[.slice A n c, .int .i64 0]) ∧ LivW w W' gl g gr gx x d pb xr sp dr va vt (BytesT (.slice A n c) (d.read 0 n) :: Ps) := by
  obtain ⟨vl, vb, h1, h⟩ := h
  have hl : (d.read 0 n).length = n := read_length ho (by omega)
  refine (Read_here h.swap (by omega) 0 n ⟨by omega, by omega, by omega⟩).mono ?_
  rintro e W' ⟨v, rfl, h⟩
  obtain ⟨A, c, hv, _, _⟩ := h.bytes.slice
  rw [hl] at hv
  subst hv
  refine ⟨A, c, rfl, vl, vb, h1, h.perm ?_⟩
  exact (List.perm_middle (l₁ := [DiskT g d, LogT gl g x vl, BytesT vb pb, CellsT gr (rlC gx xr sp) 101, CellsT gx (refC dr va vt) 125, RawT 1 3 va (atsR dr.q), RawT 1 9 vt (txtR dr.q)]) (a := BytesT (.slice A n c) (d.read 0 n)) (l₂ := Ps)).symm.trans (List.Perm.swap _ _ _)
theorem RlRead_e {A : Option Addr} {c n : Nat} (h : LivW w W gl g gr gx x d pb xr sp dr va vt (BytesT (.slice A n c) (dr.read 0 n) :: Ps)) (ho : dr.Ok) (hq : dr.q.length ≤ 998000) (hn : n = dr.b.length) (S : ByteArray) (hS : S = strOfNums (dr.read 0 n)) :
    Calls Try.prog 43 #[.pointer (some ⟨gx, 0, none⟩), .int .i64 0, .int .i64 n] W fun e W' => e = .returned (.tuple #[.string S, .int .i64 0]) ∧ LivW w W' gl g gr gx x d pb xr sp dr va vt Ps ∧ Sem.run Try.prog (convert 22 9 (.slice A n c)) W' = .ok (.string S) W' := by
  obtain ⟨vl, vb, h1, h⟩ := livw_ref h
  have hl : (dr.read 0 n).length = n := read_length ho (by omega)
  refine (RefRead_now (rl_disk h) ho (by omega) 0 n ⟨by omega, by omega, by omega⟩ S hS).mono ?_
  rintro e W' ⟨rfl, h⟩
  have h2 := livw_back h1 (rl_back h)
  refine ⟨rfl, ?_, ?_⟩
  · obtain ⟨vl2, vb2, h3, h4⟩ := h2
    exact ⟨vl2, vb2, h3, (Here.nth h4 7 (by simp)).drop⟩
  · obtain ⟨vl2, vb2, h3, h4⟩ := h2
    exact conv_str (bytes_of (Here.nth h4 7 (by simp))) hl.symm hS (Below.refl _ _)
end
set_option maxHeartbeats 8000000 in
set_option maxRecDepth 100000 in
theorem WalLives_calls (a0 : Int) (A1 : Option Addr) (c1 : Nat) (l1 : List Op14) (w : World) (h1 : Kd.C k83 w A1 l1.length l1) (q1 : ∀ x ∈ l1, Q83 x) :
    Calls Try.prog 14 #[.int .i64 a0, .slice A1 l1.length c1] w fun e w' => e = .returned (.bool true) ∧ Below w.heap.size w w' := by
  have H1 := Aside0.mk h1
  have HQ1 := Aside0.mk q1
  have HH := Aside0.mk (Here.nil w)
  have m1 := h1.2.1
  clear h1 q1
  by_cases hn : a0 < 64 ∨ 262144 < a0
  · have hq : (decide ((64 : Int) ≤ a0) = false ∧ ¬ (64 : Int) ≤ a0) ∨ (decide ((64 : Int) ≤ a0) = true ∧ (64 : Int) ≤ a0 ∧ decide (a0 ≤ (262144 : Int)) = false ∧ ¬ a0 ≤ (262144 : Int)) := by
      by_cases c : 64 ≤ a0
      · exact .inr ⟨decide_eq_true c, c, decide_eq_false (by omega), by omega⟩
      · exact .inl ⟨decide_eq_false c, c⟩
    have HN := Aside0.mk hn
    clear hn
    rcases hq with ⟨p1, p2⟩ | ⟨p1, p2, p3, p4⟩
    all_goals
      go_enter Try.func14, Try.ntmps14
      go_wp2_with (first
        | (go_at_call 20; go_must (refine (New_no a0 _ HN.out).mono ?_; rintro e w1 ⟨rfl, rfl⟩))
        | (go_at_call 36; go_must (refine (alive14 _).mono ?_; rintro e w2 ⟨rfl, hb⟩; have HB := Aside0.mk hb; clear hb)))
      go_ret
      exact ⟨rfl, HB.out⟩
  · obtain ⟨n, rfl⟩ : ∃ n : Nat, a0 = n := ⟨a0.toNat, by omega⟩
    have n1 : 64 ≤ n := by omega
    have n2 : n ≤ 262144 := by omega
    clear hn
    by_cases hg : 4000 < n
    · have f1 : decide ((4000 : Int) < (n : Int)) = true := decide_eq_true (by omega)
      have p1 : decide ((64 : Int) ≤ (n : Int)) = true := decide_eq_true (by omega)
      have p3 : decide ((n : Int) ≤ (262144 : Int)) = true := decide_eq_true (by omega)
      go_enter Try.func14, Try.ntmps14
      go_wp2_with (first
        | (go_at_call 20; go_must (refine (New_here HH.out n n1 n2).mono ?_; rintro e w1 ⟨g, rfl, h⟩; have HA := Aside0.mk h; clear h HH))
        | (go_at_call 36; go_must (refine (alive14 _).mono ?_; rintro e w2 ⟨rfl, hb⟩; have HB := Aside0.mk (HA.out.then_ hb).below; clear hb HA)))
      go_ret
      exact ⟨rfl, HB.out⟩
    · have f1 : decide ((4000 : Int) < (n : Int)) = false := decide_eq_false (by omega)
      obtain ⟨d0, hd0⟩ : ∃ d0, d0 = Dm.new n := ⟨_, rfl⟩
      have HD0 := Aside0.mk hd0
      have HO0 := Aside0.mk (show d0.Ok by rw [hd0]; exact Dm.ok_new n1 n2)
      have HQ0 := Aside0.mk (show d0.q.length ≤ 0 by rw [hd0]; simp [Dm.new])
      obtain ⟨z, hz⟩ : ∃ z, z = Sz (Dm.new n) := ⟨_, rfl⟩
      have HZ0 := Aside0.mk (show LivI ⟨1, 0, 0, 0, 0, 0⟩ d0.format [] [] [] [] z 0 by rw [hd0, hz]; exact LivI.start n1 n2)
      have HFL := Aside0.mk (format_len n n1 n2)
      clear hd0 hz hg
      go_enter Try.func14, Try.ntmps14
      go_wp2_with (first
        | (go_at_call 20; go_must (refine (New_here HH.out n n1 n2).mono ?_; rw [← HD0.out]; rintro e w1 ⟨g, rfl, h⟩; have HA := Aside0.mk h; clear h HH))
        | (go_at_call 45; go_must (refine (Format_here HA.out (by have := HQ0.out; omega)).mono ?_; rintro e w2 ⟨gl, rfl, h⟩; have HB := Aside0.mk h; clear h HA))
        | (go_at_call 37; go_must (refine (RefNew HB.out n n2).mono ?_; rw [← HD0.out]; rintro e w3 ⟨gx, rfl, h⟩; have HC := Aside0.mk h; clear h HB))
        | (go_at_call 54; go_must (refine (RlFormat HC.out HO0.out (by have := HQ0.out; omega)).mono ?_; rintro e w4 ⟨gr, va0, vt0, rfl, h⟩; have HD := Aside0.mk h; clear h HC)))
      have HLN := Aside0.mk (show d0.format.b.length = n by rw [HD0.out]; exact HFL.out)
      have HJ0 := Aside0.mk (show LivJ w w4 g gx z n 0 (.pointer (some ⟨gl, 0, none⟩)) (.pointer (some ⟨gr, 0, none⟩)) from
        ⟨gl, gr, _, d0.format, [], _, va0, vt0, [], [], [], [], rfl, rfl, WalS.fresh (HD.out.perm (List.perm_append_comm (l₁ := [CellsT gr (rlC gx ⟨1, 0, 0, 0, 0, 0⟩ ⟨#[]⟩) 101, CellsT gx (refC d0.format va0 vt0) 125, RawT 1 3 va0 (atsR d0.format.q), RawT 1 9 vt0 (txtR d0.format.q)]) (l₂ := [LogT gl g ⟨1, 0, 0, 0, 0, 0⟩ (.slice none 0 0), DiskT g d0.format]))) rfl, fun h => absurd h (by simp), HZ0.out, HLN.out⟩)
      clear HD
      go_loopw [7, 9, 10] (fun v7 v9 v10 wr => ∃ (i : Nat), v10 = .int .i64 i ∧ i ≤ 40 ∧ i ≤ l1.length ∧ (∃ a b, v7 = .pointer (some ⟨a, 0, none⟩) ∧ v9 = .pointer (some ⟨b, 0, none⟩)) ∧ Aside0 (LivJ w wr g gx z n i v7 v9)) (fun _ _ v10 _ => 40 - (intOf v10).toNat)
      case atStart => exact ⟨0, rfl, by omega, by omega, ⟨_, _, rfl, rfl⟩, HJ0⟩
      case round =>
        clear HJ0
        obtain ⟨i, rfl, hi40, hil, ⟨_, _, rfl, rfl⟩, HJ⟩ := hrel
        obtain ⟨gl2, gr2, x, d, pb, sp, va, vt, P, N, R, Ps, e7, e9, hw, hsp, inv, hlen⟩ := HJ.out
        injection e7 with e7
        injection e7 with e7
        injection e7 with e7 _
        injection e9 with e9
        injection e9 with e9
        injection e9 with e9 _
        subst e7 e9
        have HW := Aside0.mk hw
        have HSP := Aside0.mk hsp
        have HI := Aside0.mk inv
        have HLEN := Aside0.mk hlen
        clear HJ hw hsp inv hlen
        by_cases hlt : i < l1.length ∧ i < 40
        · obtain ⟨hl1, hl2⟩ := hlt
          have q1 : decide ((i : Int) < (l1.length : Int)) = true := decide_eq_true (by omega)
          have q2 : decide ((i : Int) < 40) = true := decide_eq_true (by omega)
          have u1 : IntKind.i64.wrap ((i : Int) + 1) = (i : Int) + 1 := IntWalk.i64_in _ ⟨by omega, by omega⟩
          obtain ⟨ad, kd, la, b, L, A2, c2, A3, c3, rfl, k2, hb, hB, C2, C3, hla, f⟩ := op15_at H1.out HQ1.out i hl1
          have HC2 := Aside0.mk C2
          have HC3 := Aside0.mk C3
          have HBY := Aside0.mk hb
          have HBL := Aside0.mk hB
          have HFC := Aside0.mk f
          have HLA := Aside0.mk hla
          obtain ⟨e0, e1, e2, e3⟩ := f _ HW.out.below
          clear C2 C3 hb hB f hla
          by_cases hg : greatR b.length L
          · have hgd := Aside0.mk (decide_eq_true hg)
            clear hg
            go_wp2_with (first
              | (go_at_call 44; go_must (refine (Great_calls kd la A2 b.length c2 A3 c3 L _ (Kd.C_below HC3.out HW.out.below)).mono ?_; rw [hgd.out]; rintro e w5 ⟨rfl, hb⟩; clear e0 e1 e2 e3; have HE := Aside0.mk (HW.out.then_ hb); clear HW hb))
              | (go_at_call 36; go_must (refine (alive14 _).mono ?_; rintro e w6 ⟨rfl, hb⟩; have HB := Aside0.mk (HE.out.then_ hb).below; clear hb HE)))
            go_ret
            exact ⟨rfl, HB.out⟩
          · have hgd := Aside0.mk (decide_eq_false hg)
            have HG := Aside0.mk (great_no hg)
            clear hg
            go_wp2_with (first
              | (go_at_call 44; go_must (refine (Great_calls kd la A2 b.length c2 A3 c3 L _ (Kd.C_below HC3.out HW.out.below)).mono ?_; rw [hgd.out]; rintro e w5 ⟨rfl, hb⟩; clear e0 e1 e2 e3; have HE := Aside0.mk (HW.out.then_ hb); obtain ⟨e0, e1, e2, e3⟩ := HFC.out _ HE.out.below; clear HW hb))
              | (go_at_call 55; go_must (refine (do_any HE.out HSP.out HI.out (by omega) HLEN.out kd la HLA.out A2 c2 b HC2.out k2 HBY.out HG.out.1 A3 c3 L HC3.out HG.out.2.1 HG.out.2.2 HBL.out).mono ?_; rintro e w6 ⟨gl3, gr3, x3, d3, pb3, sp3, va3, vt3, P3, N3, R3, Qs, rfl, hw, hs, hi, hn⟩; have HF := Aside0.mk hw; have HSP3 := Aside0.mk hs; have HI3 := Aside0.mk hi; have HN3 := Aside0.mk hn; have HQ3 := Aside0.mk (hi.lim (by omega)).1; have HO3 := Aside0.mk hi.ok; obtain ⟨S, hS⟩ : ∃ S, S = strOfNums (d3.read 0 n) := ⟨_, rfl⟩; have HS := Aside0.mk hS; have qS : (S.toList == S.toList) = true := beq_self_eq_true _; have qS2 : (S.toList != S.toList) = false := bne_self_eq_false _; clear hw hs hi hn hS HE e0 e1 e2 e3))
              | (go_at_call 24; go_must (refine (LivRead_e HF.out HQ3.out n HN3.out.symm HO3.out).mono ?_; rintro e w7 ⟨A7, c7, rfl, h⟩; have HK := Aside0.mk h; have r0 := (livw_cells h).1; clear h HF))
              | (go_at_call 43; go_must (refine (RlRead_e HK.out HO3.out HQ3.out HN3.out.symm S HS.out).mono ?_; rintro e w8 ⟨rfl, h, zc⟩; have HL := Aside0.mk h; clear h HK r0)))
            go_roundw
            case rel => exact ⟨i + 1, by go_num, by omega, by omega, ⟨_, _, rfl, rfl⟩, ⟨gl3, gr3, x3, d3, pb3, sp3, va3, vt3, P3, N3, R3, Qs, rfl, rfl, HL.out, HSP3.out, HI3.out, HN3.out⟩⟩
            case measure => simp [intOf]; omega
        · have hq : (decide ((i : Int) < (l1.length : Int)) = false ∧ ¬ i < l1.length) ∨ (decide ((i : Int) < (l1.length : Int)) = true ∧ i < l1.length ∧ decide ((i : Int) < 40) = false ∧ ¬ (i : Int) < 40 ∧ ¬ i < 40) := by
            by_cases c : i < l1.length
            · exact .inr ⟨decide_eq_true (by omega), c, decide_eq_false (by omega), by omega, by omega⟩
            · exact .inl ⟨decide_eq_false (by omega), c⟩
          clear hlt
          obtain ⟨vl, vb, _, hh⟩ := HW.out
          have HZ := Aside0.mk (hh.newCells zeroC 103)
          clear hh HW
          have t1 : True := trivial
          rcases hq with ⟨q1, p1⟩ | ⟨q1, p1, q2, p2, p3⟩
          all_goals
            go_wp2_with (first
              | (go_at_call 46; go_must (refine (Append_nil _ 1 _ (C_lit [1] (heap_at (by simp)) rfl (by simp)) (Nat.le_refl _)).mono ?_; rintro e w7 ⟨rfl, hb⟩; have HA := Aside0.mk ((HZ.out.alloc _).then_ hb); clear hb HZ))
              | (go_at_call 49; go_must (refine (Step_zero (zero_at HA.out).1).mono ?_; rintro e w8 ⟨rfl, rfl⟩))
              | (go_at_call 45; go_must (refine (Format_nil _).mono ?_; rintro e w8 ⟨rfl, rfl⟩))
              | (go_at_call 50; go_must (refine (Areas_nil _).mono ?_; rintro e w9 ⟨rfl, hb⟩; have HB := Aside0.mk (HA.out.then_ hb); clear hb HA))
              | (go_at_call 36; go_must (refine (alive14 _).mono ?_; rintro e w10 ⟨rfl, hb⟩; have HC := Aside0.mk ((HB.out.alloc _).then_ hb); clear hb HB))
              | (go_at_call 47; go_must (refine (Sync_nil _).mono ?_; rintro e w11 ⟨rfl, rfl⟩))
              | (go_at_call 48; go_must (refine (Begin_zero (zero_at HC.out).1).mono ?_; rintro e w12 ⟨rfl, hb⟩; have HE := Aside0.mk (HC.out.then_ hb); clear hb HC))
              | (go_at_call 56; go_must (refine (All_nil _).mono ?_; rintro e w13 ⟨rfl, rfl⟩))
              | (go_at_call 57; go_must (refine (Sure_zero (zero_at HE.out).2).mono ?_; rintro e w14 ⟨rfl, rfl⟩))
              | (go_at_call 53; have _t := t1; clear t1; go_must (refine (Room_nil _).mono ?_; rintro e w15 ⟨rfl, rfl⟩))
              | (go_at_call 53; go_must (refine (Room_zero (zero_at HE.out).1).mono ?_; rintro e w16 ⟨rfl, rfl⟩))
              | (go_at_call 51; go_must (refine (Stage_nil _).mono ?_; rintro e w17 ⟨rfl, rfl⟩))
              | (go_at_call 58; go_must (refine (Gen_nil _).mono ?_; rintro e w18 ⟨rfl, rfl⟩)))
            go_ret
            exact ⟨rfl, HE.out.below⟩
end Go.Proofs.Ytmbemlpmfklddaa.Own
