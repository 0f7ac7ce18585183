/- What a slot tells the reference. The reference opens a log. The reference opens a log: its parts and its records. Opening a log, and its reference, on both sides alike: nothing is opened, or a log. -/
import Derived.Test.YtmbemlpmfklddaaRf9
import Derived.Test.YtmbemlpmfklddaaRfA
import Derived.Test.YtmbemlpmfklddaaJnf
import Derived.Test.YtmbemlpmfklddaaLgb
import Derived.Test.YtmbemlpmfklddaaRf10
namespace Go.Proofs.Ytmbemlpmfklddaa.Own
open Go.RowKit Go.Proofs.YtmbemlpmfklddaaW.PrintWords Go.Proofs.YtmbemlpmfklddaaW.PrintLast Go.Proofs.YtmbemlpmfklddaaW.PrintMore
theorem slotB_get5 {G a : Int} (ha : 0 ≤ a ∧ a < 256) : (slotB G a).getD 5 0 = a := by
  unfold slotB fourB
  show a % 256 = a
  omega
/-- What a slot tells, as the reference looks for it. -/
theorem told_ref {s : List Int} (i : Nat) (hs : Byt s) :
    toldR s i = if 0 < genB s ∧ genB s % 2 = i ∧ slotB (genB s) 0 = s then (genB s, 0) else if 0 < genB s ∧ genB s % 2 = i ∧ slotB (genB s) 1 = s then (genB s, 1) else (0, 0) := by
  have hg := genB_range hs
  have h5 := hs.get 5
  unfold toldR
  generalize genB s = G at *
  by_cases h0 : 0 < G ∧ G % 2 = i ∧ slotB G 0 = s
  · have e5 : s.getD 5 0 = 0 := by rw [← h0.2.2]; exact slotB_get5 (by omega)
    rw [if_pos h0, if_pos ⟨by omega, h0.2.1, by omega, by rw [e5]; exact h0.2.2⟩, e5]
    rfl
  · rw [if_neg h0]
    by_cases h1 : 0 < G ∧ G % 2 = i ∧ slotB G 1 = s
    · have e5 : s.getD 5 0 = 1 := by rw [← h1.2.2]; exact slotB_get5 (by omega)
      rw [if_pos h1, if_pos ⟨by omega, h1.2.1, by omega, by rw [e5]; exact h1.2.2⟩, e5]
      rfl
    · rw [if_neg h1, if_neg]
      rintro ⟨k1, k2, k3, k4⟩
      by_cases k5 : s.getD 5 0 = 0
      · rw [k5] at k4
        exact h0 ⟨by omega, k2, k4⟩
      · have k6 : s.getD 5 0 = 1 := by omega
        rw [k6] at k4
        exact h1 ⟨by omega, k2, k4⟩
theorem RefSlot_eq (gen : Int) (a : Nat) (s : ByteArray) (hs : s = strOfNums (slotB gen a)) (w : World) (hg : 0 ≤ gen ∧ gen < 4294967296) (ha : a < 2) : Calls Try.prog 95 #[.int .u64 gen, .int .i64 a] w fun e w' => e = .returned (.string s) ∧ Below w.heap.size w w' := by
  subst hs
  exact RefSlot gen a w hg ⟨by omega, by omega⟩
section
variable {w W : World} {Ps : List Thing} {g : Nat} {d : Dm} {va vt : Value}
theorem RefRead_now (h : RefH w W g d va vt Ps) (ho : d.Ok) (hq : d.q.length ≤ 1000000) (p n : Nat) (hf : d.fits p n) (s : ByteArray) (hs : s = strOfNums (d.read p n)) :
    Calls Try.prog 43 #[.pointer (some ⟨g, 0, none⟩), .int .i64 p, .int .i64 n] W fun e W' => e = .returned (.tuple #[.string s, .int .i64 0]) ∧ RefH w W' g d va vt Ps := by
  subst hs
  exact RefRead12 (fun _ h L hL => RefNow h ho hq L hL) h ho hq p n hf
set_option maxHeartbeats 8000000 in
set_option maxRecDepth 100000 in
theorem RefTold (h : RefH w W g d va vt Ps) (ho : d.Ok) (hq : d.q.length ≤ 1000000) (hB : ByD d) (i : Nat) (hi : i ≤ 1) :
    Calls Try.prog 77 #[.pointer (some ⟨g, 0, none⟩), .int .i64 i] W fun e W' => e = .returned (.tuple #[.int .u64 (toldR (d.read (i * 16) 16) i).1, .int .i64 (toldR (d.read (i * 16) 16) i).2]) ∧ RefH w W' g d va vt Ps := by
  have HH := Aside0.mk h
  have HO := Aside0.mk ho
  have hlo := ho.lo
  have HF := Aside0.mk (show d.fits ((i * 16 : Nat) : Int) (16 : Nat) by unfold Dm.fits; omega)
  have u1 : IntKind.i64.wrap (16 * (i : Int)) = ((i * 16 : Nat) : Int) := by
    rw [show 16 * (i : Int) = ((i * 16 : Nat) : Int) by omega]
    exact IntWalk.i64_in _ ⟨by omega, by omega⟩
  have HTR := Aside0.mk (told_ref i (hB.read ho (i * 16) 16))
  have hbr := hB.read ho (i * 16) 16
  obtain ⟨b, hb⟩ : ∃ b, b = d.read (i * 16) 16 := ⟨_, rfl⟩
  rw [← hb] at HTR hbr ⊢
  have hbl : b.length = 16 := by rw [hb]; exact read_length ho (by omega)
  obtain ⟨s, hs⟩ : ∃ s, s = strOfNums b := ⟨_, rfl⟩
  have hsz : s.size = 16 := by rw [hs, strOfNums_size, hbl]
  have HS := Aside0.mk (hs.trans (by rw [hb] : strOfNums b = strOfNums (d.read (i * 16) 16)))
  have HG : ∀ (j : Nat) (hj : j < s.size), ((s[j]'hj).toNat : Int) = b.getD j 0 := by
    rw [hs]
    exact str_get b hbr
  have HSB := Aside0.mk hs
  obtain ⟨y1, hy1⟩ : ∃ y, y = b.getD 1 0 := ⟨_, rfl⟩
  obtain ⟨y2, hy2⟩ : ∃ y, y = b.getD 2 0 := ⟨_, rfl⟩
  obtain ⟨y3, hy3⟩ : ∃ y, y = b.getD 3 0 := ⟨_, rfl⟩
  obtain ⟨y4, hy4⟩ : ∃ y, y = b.getD 4 0 := ⟨_, rfl⟩
  have r1 := hbr.get 1
  have r2 := hbr.get 2
  have r3 := hbr.get 3
  have r4 := hbr.get 4
  have l1 : 1 < s.size := by omega
  have l2 : 2 < s.size := by omega
  have l3 : 3 < s.size := by omega
  have l4 : 4 < s.size := by omega
  have x1 := HG 1 l1
  have x2 := HG 2 l2
  have x3 := HG 3 l3
  have x4 := HG 4 l4
  rw [← hy1] at r1 x1
  rw [← hy2] at r2 x2
  rw [← hy3] at r3 x3
  rw [← hy4] at r4 x4
  obtain ⟨G, hG⟩ : ∃ G, G = genB b := ⟨_, rfl⟩
  have hGv : G = y1 * 16777216 + y2 * 65536 + y3 * 256 + y4 := by rw [hG, hy1, hy2, hy3, hy4]; rfl
  rw [← hG] at HTR
  have hGr : 0 ≤ G ∧ G < 4294967296 := by omega
  have HBR := Aside0.mk hbr
  clear h ho hB hb hs HG hy1 hy2 hy3 hy4 hG hbr
  have w64 : ∀ x : Int, 0 ≤ x → x < 18446744073709551616 → IntKind.u64.wrap x = x := by
    intro x h0 h1
    simp [IntKind.wrap, IntKind.signed, IntKind.bits]
    omega
  obtain ⟨z1, hz1⟩ : ∃ z, z = 16777216 * y1 := ⟨_, rfl⟩
  obtain ⟨z2, hz2⟩ : ∃ z, z = 65536 * y2 := ⟨_, rfl⟩
  obtain ⟨z3, hz3⟩ : ∃ z, z = 256 * y3 := ⟨_, rfl⟩
  obtain ⟨z4, hz4⟩ : ∃ z, z = z1 + z2 := ⟨_, rfl⟩
  obtain ⟨z5, hz5⟩ : ∃ z, z = z4 + z3 := ⟨_, rfl⟩
  have a1 : IntKind.u64.wrap y1 = y1 := w64 _ (by omega) (by omega)
  have a2 : IntKind.u64.wrap y2 = y2 := w64 _ (by omega) (by omega)
  have a3 : IntKind.u64.wrap y3 = y3 := w64 _ (by omega) (by omega)
  have a4 : IntKind.u64.wrap y4 = y4 := w64 _ (by omega) (by omega)
  have b1 : IntKind.u64.wrap (16777216 * y1) = z1 := by rw [hz1]; exact w64 _ (by omega) (by omega)
  have b2 : IntKind.u64.wrap (65536 * y2) = z2 := by rw [hz2]; exact w64 _ (by omega) (by omega)
  have b3 : IntKind.u64.wrap (256 * y3) = z3 := by rw [hz3]; exact w64 _ (by omega) (by omega)
  have b4 : IntKind.u64.wrap (z1 + z2) = z4 := by rw [hz4]; exact w64 _ (by omega) (by omega)
  have b5 : IntKind.u64.wrap (z4 + z3) = z5 := by rw [hz5]; exact w64 _ (by omega) (by omega)
  have b6 : IntKind.u64.wrap (z5 + y4) = G := by rw [show z5 + y4 = G by omega]; exact w64 _ (by omega) (by omega)
  have b7 : G.tmod 2 = G % 2 := Int.tmod_eq_emod_of_nonneg hGr.1
  have b8 : IntKind.i64.wrap (G % 2) = G % 2 := IntWalk.i64_in _ ⟨by omega, by omega⟩
  clear hz1 hz2 hz3 hz4 hz5 hGv w64
  have i1 : (0 : Int) ≤ 1 ∧ (1 : Int) < 16 := ⟨by omega, by omega⟩
  go_enter Try.func77, Try.ntmps77
  go_wp2_with (go_at_call 43; go_must (refine (RefRead_now HH.out HO.out hq (i * 16) 16 HF.out s HS.out).mono ?_; rintro e w1 ⟨rfl, h⟩; have HK := Aside0.mk h; clear h HH))
  go_quiet (fail)
  go_wp2_with fail
  clear x1 x2 x3 x4 a1 a2 a3 a4 b1 b2 b3 b4 b5 b6
  go_loopw [9] (fun v9 wr => ∃ (k : Nat), v9 = .int .i64 k ∧ k ≤ 2 ∧ Aside0 (∀ a : Nat, a < k → ¬ (0 < G ∧ G % 2 = i ∧ slotB G a = b)) ∧ Aside0 (RefH w wr g d va vt Ps)) (fun v9 _ => 2 - (intOf v9).toNat)
  case atStart => exact ⟨0, rfl, by omega, ⟨fun a ha => by omega⟩, ⟨HK.out.then_ (pw_below_drewN (Below.refl _ _) _)⟩⟩
  case round =>
    clear HK
    obtain ⟨k, rfl, hk, HN, HI⟩ := hrel
    by_cases hlt : k < 2
    · have q1 : decide ((k : Int) < 2) = true := decide_eq_true (by omega)
      have v1 : IntKind.i64.wrap ((k : Int) + 1) = (k : Int) + 1 := IntWalk.i64_in _ ⟨by omega, by omega⟩
      have HX := Aside0.mk (show ¬ (0 < G ∧ G % 2 = i ∧ slotB G k = b) → ∀ a : Nat, a < k + 1 → ¬ (0 < G ∧ G % 2 = i ∧ slotB G a = b) by
        intro h a ha
        by_cases e : a < k
        · exact HN.out a e
        · obtain rfl : a = k := by omega
          exact h)
      have HY := Aside0.mk (show (0 < G ∧ G % 2 = i ∧ slotB G k = b) → toldR b i = (G, k) by
        intro h
        rw [HTR.out]
        by_cases e : k = 0
        · subst e
          exact if_pos h
        · obtain rfl : k = 1 := by omega
          rw [if_neg (show ¬ (0 < G ∧ G % 2 = i ∧ slotB G 0 = b) from HN.out 0 (by omega))]
          exact if_pos h)
      by_cases g1 : 0 < G
      · have p1 : decide (0 < G) = true := decide_eq_true g1
        by_cases g2 : G % 2 = i
        · have p2 : (G % 2 == (i : Int)) = true := beq_iff_eq.mpr g2
          obtain ⟨t, ht⟩ : ∃ t, t = strOfNums (slotB G k) := ⟨_, rfl⟩
          have HT := Aside0.mk ht
          by_cases g3 : slotB G k = b
          · have ets : t = s := by rw [ht, HSB.out, g3]
            have HR := Aside0.mk (HY.out ⟨g1, g2, g3⟩)
            subst ets
            have p3 : (t.toList == t.toList) = true := beq_self_eq_true _
            clear ht g2 g3
            go_wp2_with (go_at_call 95; go_must (refine (RefSlot_eq G k t HT.out _ hGr (by omega)).mono ?_; rintro e w2 ⟨rfl, h⟩; have HJ := Aside0.mk (HI.out.then_ h : RefH w w2 g d va vt Ps); clear h))
            go_ret2
            rw [HR.out]
            exact ⟨rfl, HJ.out⟩
          · have p3 : (t.toList == s.toList) = false := by
              have hn : strOfNums (slotB G k) ≠ strOfNums b := fun h => g3 (str_inj (Byt.slot G k) HBR.out h)
              rw [ht, HSB.out]
              exact str_ne hn
            have HR := Aside0.mk (HX.out (fun h => g3 h.2.2))
            clear ht g2 g3
            go_wp2_with (go_at_call 95; go_must (refine (RefSlot_eq G k t HT.out _ hGr (by omega)).mono ?_; rintro e w2 ⟨rfl, h⟩; have HJ := Aside0.mk (HI.out.then_ h : RefH w w2 g d va vt Ps); clear h))
            go_roundw
            case rel => exact ⟨k + 1, by go_num, by omega, HR, HJ⟩
            case measure => simp [intOf]; omega
        · have p2 : (G % 2 == (i : Int)) = false := beq_eq_false_iff_ne.mpr g2
          have HR := Aside0.mk (HX.out (fun h => g2 h.2.1))
          clear g2
          go_wp2_with fail
          go_roundw
          case rel => exact ⟨k + 1, by go_num, by omega, HR, HI⟩
          case measure => simp [intOf]; omega
      · have p1 : decide (0 < G) = false := decide_eq_false g1
        have HR := Aside0.mk (HX.out (fun h => g1 h.1))
        go_wp2_with fail
        go_roundw
        case rel => exact ⟨k + 1, by go_num, by omega, HR, HI⟩
        case measure => simp [intOf]; omega
    · obtain rfl : k = 2 := by omega
      have HR := Aside0.mk (show toldR b i = (0, 0) by rw [HTR.out, if_neg (show ¬ (0 < G ∧ G % 2 = i ∧ slotB G 0 = b) from HN.out 0 (by omega)), if_neg (show ¬ (0 < G ∧ G % 2 = i ∧ slotB G 1 = b) from HN.out 1 (by omega))])
      go_wp2_with fail
      go_ret2
      rw [HR.out]
      exact ⟨rfl, HI.out⟩
end
end Go.Proofs.Ytmbemlpmfklddaa.Own
namespace Go.Proofs.Ytmbemlpmfklddaa.Own
open Go.RowKit Go.Proofs.YtmbemlpmfklddaaW.PrintWords Go.Proofs.YtmbemlpmfklddaaW.PrintLast Go.Proofs.YtmbemlpmfklddaaW.PrintMore
theorem Here.join1 {w W W' : World} {Ps : List Thing} {P : Thing} (h : Here w W Ps) (h2 : Here W W' [P]) : Here w W' (P :: Ps) := by
  obtain ⟨S, ⟨S1, S2, h1, _, _, h4⟩, h5, h6⟩ := h2
  exact h.add h1 h6 (fun k hk => (h5 k (h4 k (.inl hk))).1)
theorem RefRead_n {w W : World} {Ps : List Thing} (h : Here w W Ps) (b : List Int) (t : ByteArray) (hl : b.length ≤ 300000) (hb : ∀ x ∈ b, 0 ≤ x ∧ x < 256) (ht : t = strOfNums b) :
    Calls Try.prog 31 #[.string t] W fun e W' => ∃ v, e = .returned (.tuple #[v, .int .i64 (readR b).2.1, .int .i64 (readR b).2.2]) ∧ Here w W' (RawT 2 55 v (rowsR (readR b).1) :: Ps) := by
  subst ht
  refine (RefRead_calls b W hl hb).mono ?_
  rintro e W' ⟨v, rfl, h2⟩
  exact ⟨v, rfl, h.join1 h2⟩
/-- The reference's log: its cells, the disk at block g. -/
def rlC (g : Nat) (x : Lg) (parts : ByteArray) : Array Value := #[.pointer (some ⟨g, 0, none⟩), .int .u64 x.gen, .int .i64 x.area, .int .i64 x.tail, .int .i64 x.all, .int .i64 x.sure, .int .i64 x.stage, .string parts]
theorem strsR_snoc {L : List (List Int)} {l : List Int} {t : ByteArray} (ht : t = strOfNums l) : strsR L ++ [[.string t]] = strsR (L ++ [l]) := by
  subst ht
  simp [strsR]
theorem strsR_len (L : List (List Int)) : (strsR L).length = L.length := by simp [strsR]
section
variable {w W : World} {Ps : List Thing} {v : Value} {rows : List (List Value)} {ops : Array Oper} {rest : List Oper} {o : Oper} {a : Act} {Q : Exit → Act → World → Prop}
/-- append(texts, s), outside a region. -/
theorem text_app1 (H : Here w W (RawT 1 9 v rows :: Ps)) (hgd : o.guard = none) (s x : Operand) (ho : o.op = .call { callee := .builtin .append, args := #[s, x], argTypes := #[73, 73] })
    (t : ByteArray) (g : Nat) (hs : a.eval s = v) (hx : a.eval x = .slice (some ⟨g, 0, none⟩) 1 1) (hb : W.heap[g]? = some (.cells #[.string t] 9 (0, 0))) (hl : rows.length ≤ 1000000)
    (h : ∀ v1 w1, Here w w1 (RawT 1 9 v1 (rows ++ [[.string t]]) :: Ps) → wpList Try.prog ops Q rest (a.put o.dst v1) w1) :
    wpList Try.prog ops Q (o :: rest) a W :=
  raw_app1 1 73 9 (.string ⟨#[]⟩) 16 H hgd s x ho Try.underlying73 info9 rfl (by decide) (by decide) [[.string t]] _ 1 1 hs hx (raw_lit (cs := [.string t]) hb rfl (oneS t)) (by omega) (fun v1 w1 h1 _ => h v1 w1 h1)
end
section
variable {w W : World} {Ps : List Thing} {g : Nat} {d : Dm} {va vt : Value}
theorem RefTold_at (h : RefH w W g d va vt Ps) (ho : d.Ok) (hq : d.q.length ≤ 1000000) (hB : ByD d) (i : Nat) (hi : i ≤ 1) {gi : Int} {ai : Nat} (hg : (gi, ai) = toldR (d.read (i * 16) 16) i) :
    Calls Try.prog 77 #[.pointer (some ⟨g, 0, none⟩), .int .i64 i] W fun e W' => e = .returned (.tuple #[.int .u64 gi, .int .i64 ai]) ∧ RefH w W' g d va vt Ps := by
  have := RefTold h ho hq hB i hi
  rw [← hg] at this
  exact this
theorem RefRead_int (h : RefH w W g d va vt Ps) (ho : d.Ok) (hq : d.q.length ≤ 1000000) (pi : Int) (p n : Nat) (hp : pi = p) (hf : d.fits p n) (s : ByteArray) (hs : s = strOfNums (d.read p n)) :
    Calls Try.prog 43 #[.pointer (some ⟨g, 0, none⟩), .int .i64 pi, .int .i64 n] W fun e W' => e = .returned (.tuple #[.string s, .int .i64 0]) ∧ RefH w W' g d va vt Ps := by
  subst hp
  exact RefRead_now h ho hq p n hf s hs
theorem RefZero_eq (n : Nat) (t : ByteArray) (ht : t = strOfNums (List.replicate n 0)) (W : World) (h1 : n ≤ 262144) : Calls Try.prog 79 #[.int .i64 n] W fun e W' => e = .returned (.string t) ∧ Below W.heap.size W W' := by
  subst ht
  exact RefZero n W h1
set_option maxHeartbeats 8000000 in
set_option maxRecDepth 100000 in
theorem RefOpen_none (h : RefH w W g d va vt Ps) (ho : d.Ok) (hq : d.q.length ≤ 999000) (hB : ByD d) (area : Nat) (hs : slotsG d = (0, area)) :
    Calls Try.prog 41 #[.pointer (some ⟨g, 0, none⟩)] W fun e W' => e = .returned (.tuple #[.pointer none, .slice none 0 0, .slice none 0 0, .int .i64 4]) ∧ RefH w W' g d va vt Ps := by
  have HH := Aside0.mk h
  have HB := Aside0.mk hB
  have HO := Aside0.mk ho
  obtain ⟨⟨g0, a0⟩, hg0⟩ : ∃ x, x = toldR (d.read 0 16) 0 := ⟨_, rfl⟩
  obtain ⟨⟨g1, a1⟩, hg1⟩ : ∃ x, x = toldR (d.read 16 16) 1 := ⟨_, rfl⟩
  have HG0 := Aside0.mk hg0
  have HG1 := Aside0.mk hg1
  have hw := slots_ways hg0 hg1 hs
  have t0 : True := trivial
  have t1 : True := trivial
  clear h hg0 hg1 hs hB ho
  rcases hw with ⟨k1, k2, rfl, rfl⟩ | ⟨k1, k2, rfl, rfl⟩
  all_goals
    go_enter Try.func41, Try.ntmps41
    go_wp2_with (first
      | (go_at_call 77; have _t := t0; clear t0; go_must (refine (RefTold_at HH.out HO.out (by omega) HB.out 0 (by omega) HG0.out).mono ?_; rintro e w1 ⟨rfl, h⟩; have HI := Aside0.mk h; clear h HH))
      | (go_at_call 77; have _t := t1; go_must (refine (RefTold_at HI.out HO.out (by omega) HB.out 1 (by omega) HG1.out).mono ?_; rintro e w1 ⟨rfl, h⟩; have HJ := Aside0.mk h; clear h HI)))
    (try simp only [Exit.inBlock, Exit.then])
    refine bodyPost_ret (results_tmp4 rfl _ _ _) rfl ?_
    exact ⟨rfl, HJ.out⟩
set_option maxHeartbeats 8000000 in
set_option maxRecDepth 100000 in
theorem RefOpen_bad (h : RefH w W g d va vt Ps) (ho : d.Ok) (hq : d.q.length ≤ 999000) (hB : ByD d) (gen : Int) (area tail : Nat) (L : List Rec) (er : Int) (hs : slotsG d = (gen, area)) (hg : gen ≠ 0) (hr : readR (areaB d area) = (L, tail, er)) (he : er ≠ 0) :
    Calls Try.prog 41 #[.pointer (some ⟨g, 0, none⟩)] W fun e W' => e = .returned (.tuple #[.pointer none, .slice none 0 0, .slice none 0 0, .int .i64 er]) ∧ RefH w W' g d va vt Ps := by
  have HH := Aside0.mk h
  have hlo := ho.lo
  have hhi := ho.hi
  have HB := Aside0.mk hB
  have HO := Aside0.mk ho
  obtain ⟨⟨g0, a0⟩, hg0⟩ : ∃ x, x = toldR (d.read 0 16) 0 := ⟨_, rfl⟩
  obtain ⟨⟨g1, a1⟩, hg1⟩ : ∃ x, x = toldR (d.read 16 16) 1 := ⟨_, rfl⟩
  have HG0 := Aside0.mk hg0
  have HG1 := Aside0.mk hg1
  have hw := slots_ways hg0 hg1 hs
  have ha : area ≤ 1 := by have := (slots_range hB ho).2; rw [hs] at this; exact this
  have qg : (gen == 0) = false := beq_eq_false_iff_ne.mpr hg
  obtain ⟨z, hz⟩ : ∃ z, z = Sz d := ⟨_, rfl⟩
  have hz2 : 2 * z + 32 ≤ d.b.length := by rw [hz]; unfold Sz; omega
  have HZ := Aside0.mk hz
  obtain ⟨p, hp⟩ : ∃ p, p = plc d area 0 := ⟨_, rfl⟩
  have hpm : p = 32 + area * z := by rw [hp, hz]; rfl
  have hm : area * z ≤ 131072 := Nat.le_trans (Nat.mul_le_mul_right z ha) (by omega)
  obtain ⟨m, hmm⟩ : ∃ m, m = area * z := ⟨_, rfl⟩
  rw [← hmm] at hm hpm
  have u1 : IntKind.i64.wrap ((area : Int) * (z : Int)) = (m : Int) := by
    rw [hmm, ← Int.natCast_mul]
    exact IntWalk.i64_in _ ⟨by omega, by omega⟩
  have u2 : IntKind.i64.wrap (32 + (m : Int)) = 32 + (m : Int) := IntWalk.i64_in _ ⟨by omega, by omega⟩
  have HPM := Aside0.mk (show 32 + (m : Int) = (p : Int) by omega)
  have HF := Aside0.mk (show d.fits p z by
    have := plc_fits ho ha (f := 0) (by omega)
    unfold Dm.fits
    rw [hp, hz]
    omega)
  obtain ⟨b, hb⟩ : ∃ b, b = areaB d area := ⟨_, rfl⟩
  obtain ⟨s, hsb⟩ : ∃ s, s = strOfNums b := ⟨_, rfl⟩
  have HSB := Aside0.mk hsb
  have HBB := Aside0.mk (show s = strOfNums (d.read p z) by rw [hsb, hb, hp, hz]; rfl)
  have hbl : b.length = z := by rw [hb, area_len ho ha, hz]
  have HBL := Aside0.mk hbl
  have HBY := Aside0.mk (show Byt b by rw [hb]; exact hB.read ho _ _)
  rw [← hb] at hr
  have HR := Aside0.mk hr
  have htl : tail ≤ z := by have := readR_len b; rw [hr] at this; rw [← hbl]; exact this
  have t0 : True := trivial
  have t1 : True := trivial
  clear h hg0 hg1 hs hB ho hz hp hb hbl hr hsb hpm hmm
  have qe : (er != 0) = true := bne_iff_ne.mpr he
  rcases hw with ⟨k1, k2, rfl, rfl⟩ | ⟨k1, k2, rfl, rfl⟩
  all_goals
    go_enter Try.func41, Try.ntmps41
    go_wp2_with (first
      | (go_at_call 77; have _t := t0; clear t0; go_must (refine (RefTold_at HH.out HO.out (by omega) HB.out 0 (by omega) HG0.out).mono ?_; rintro e w1 ⟨rfl, h⟩; have HI := Aside0.mk h; clear h HH))
      | (go_at_call 77; have _t := t1; clear t1; go_must (refine (RefTold_at HI.out HO.out (by omega) HB.out 1 (by omega) HG1.out).mono ?_; rintro e w1 ⟨rfl, h⟩; have HJ := Aside0.mk h; clear h HI))
      | (go_at_call 78; go_must (refine (RefSize HJ.out (by omega) hhi).mono ?_; rw [← HZ.out]; rintro e w1 ⟨rfl, rfl⟩))
      | (go_at_call 43; go_must (refine (RefRead_int HJ.out HO.out (by omega) _ p z HPM.out HF.out s HBB.out).mono ?_; rintro e w2 ⟨rfl, h⟩; have HK := Aside0.mk h; clear h HJ))
      | (go_at_call 31; go_must (refine (RefRead_n HK.out b s (by rw [HBL.out]; omega) HBY.out HSB.out).mono ?_; rw [HR.out]; rintro e w3 ⟨v, rfl, h⟩; obtain ⟨A7, c7, rfl, k7, _⟩ := h.raw; have HL := Aside0.mk h; clear h HK k7)))
    (try simp only [Exit.inBlock, Exit.then])
    refine bodyPost_ret (results_tmp4 rfl _ _ _) rfl ?_
    exact ⟨rfl, HL.out.drop⟩
end
end Go.Proofs.Ytmbemlpmfklddaa.Own
namespace Go.Proofs.Ytmbemlpmfklddaa.Own
open Go.RowKit Go.Proofs.YtmbemlpmfklddaaW.PrintWords Go.Proofs.YtmbemlpmfklddaaW.PrintLast Go.Proofs.YtmbemlpmfklddaaW.PrintMore
/-- What opening a log says: parts and records, the log, the rest of its area noughts; or the form is wrong. -/
def OpenedR (w : World) (g : Nat) (d : Dm) (va vt : Value) (Ps : List Thing) (gen : Int) (area tail : Nat) (L : List Rec) (e : Ending) (W' : World) : Prop :=
  (∃ (P R : List (List Int)) (gl : Nat) (vp vr va' vt' : Value), splitR L [] [] = some (P, R) ∧ e = .returned (.tuple #[.pointer (some ⟨gl, 0, none⟩), vp, vr, .int .i64 0]) ∧
    Here w W' (CellsT gl (rlC g ⟨gen, area, tail, 0, 0, 0⟩ ⟨#[]⟩) 101 :: CellsT g (refC (d.write (plc d area tail) (List.replicate (Sz d - tail) 0)) va' vt') 125 :: RawT 1 3 va' (atsR (d.write (plc d area tail) (List.replicate (Sz d - tail) 0)).q) :: RawT 1 9 vt' (txtR (d.write (plc d area tail) (List.replicate (Sz d - tail) 0)).q) ::
      RawT 1 9 vp (strsR P) :: RawT 1 9 vr (strsR R) :: Ps)) ∨
  (splitR L [] [] = none ∧ e = .returned (.tuple #[.pointer none, .slice none 0 0, .slice none 0 0, .int .i64 3]) ∧ RefH w W' g d va vt Ps)
section
variable {w W : World} {Ps : List Thing} {g : Nat} {d : Dm} {va vt : Value}
theorem RefWrite_int (h : RefH w W g d va vt Ps) (ho : d.Ok) (hq : d.q.length ≤ 999990) (p q : Int) (l : List Int) (s : ByteArray) (hp : p = q) (hs : s = strOfNums l) (hf : d.fits q l.length) :
    Calls Try.prog 38 #[.pointer (some ⟨g, 0, none⟩), .int .i64 p, .string s] W fun e W' => e = .returned (.int .i64 0) ∧ ∃ va' vt', RefH w W' g (d.write q l) va' vt' Ps := by
  subst hp
  exact RefWrite12 h ho hq p l s hs hf
theorem RefZero_int (n : Int) (m : Nat) (hn : n = m) (t : ByteArray) (ht : t = strOfNums (List.replicate m 0)) (W : World) (h1 : m ≤ 262144) : Calls Try.prog 79 #[.int .i64 n] W fun e W' => e = .returned (.string t) ∧ Below W.heap.size W W' := by
  subst hn
  exact RefZero_eq m t ht W h1
set_option maxHeartbeats 8000000 in
set_option maxRecDepth 100000 in
theorem RefOpen_go (h : RefH w W g d va vt Ps) (ho : d.Ok) (hq : d.q.length ≤ 999000) (hB : ByD d) (gen : Int) (area tail : Nat) (L : List Rec) (hs : slotsG d = (gen, area)) (hg : gen ≠ 0) (hr : readR (areaB d area) = (L, tail, 0)) (hL : L.length ≤ 300000) :
    Calls Try.prog 41 #[.pointer (some ⟨g, 0, none⟩)] W (OpenedR w g d va vt Ps gen area tail L) := by
  have HH := Aside0.mk h
  have hlo := ho.lo
  have hhi := ho.hi
  have HB := Aside0.mk hB
  have HO := Aside0.mk ho
  obtain ⟨⟨g0, a0⟩, hg0⟩ : ∃ x, x = toldR (d.read 0 16) 0 := ⟨_, rfl⟩
  obtain ⟨⟨g1, a1⟩, hg1⟩ : ∃ x, x = toldR (d.read 16 16) 1 := ⟨_, rfl⟩
  have HG0 := Aside0.mk hg0
  have HG1 := Aside0.mk hg1
  have hw := slots_ways hg0 hg1 hs
  have ha : area ≤ 1 := by have := (slots_range hB ho).2; rw [hs] at this; exact this
  have qg : (gen == 0) = false := beq_eq_false_iff_ne.mpr hg
  obtain ⟨z, hz⟩ : ∃ z, z = Sz d := ⟨_, rfl⟩
  have hz2 : 2 * z + 32 ≤ d.b.length := by rw [hz]; unfold Sz; omega
  have HZ := Aside0.mk hz
  obtain ⟨p, hp⟩ : ∃ p, p = plc d area 0 := ⟨_, rfl⟩
  have hpm : p = 32 + area * z := by rw [hp, hz]; rfl
  obtain ⟨p2, hp2⟩ : ∃ p, p = plc d area tail := ⟨_, rfl⟩
  have hpm2 : p2 = 32 + area * z + tail := by rw [hp2, hz]; rfl
  have HP2 := Aside0.mk hp2
  have hm : area * z ≤ 131072 := Nat.le_trans (Nat.mul_le_mul_right z ha) (by omega)
  obtain ⟨m, hmm⟩ : ∃ m, m = area * z := ⟨_, rfl⟩
  rw [← hmm] at hm hpm hpm2
  have u1 : IntKind.i64.wrap ((area : Int) * (z : Int)) = (m : Int) := by
    rw [hmm, ← Int.natCast_mul]
    exact IntWalk.i64_in _ ⟨by omega, by omega⟩
  have u2 : IntKind.i64.wrap (32 + (m : Int)) = 32 + (m : Int) := IntWalk.i64_in _ ⟨by omega, by omega⟩
  have HPM := Aside0.mk (show 32 + (m : Int) = (p : Int) by omega)
  have HPM2 := Aside0.mk (show 32 + (m : Int) + (tail : Int) = ((p2 : Nat) : Int) by omega)
  have HF := Aside0.mk (show d.fits p z by
    have := plc_fits ho ha (f := 0) (by omega)
    unfold Dm.fits
    rw [hp, hz]
    omega)
  obtain ⟨b, hb⟩ : ∃ b, b = areaB d area := ⟨_, rfl⟩
  obtain ⟨s, hsb⟩ : ∃ s, s = strOfNums b := ⟨_, rfl⟩
  have HSB := Aside0.mk hsb
  have HBB := Aside0.mk (show s = strOfNums (d.read p z) by rw [hsb, hb, hp, hz]; rfl)
  have hbl : b.length = z := by rw [hb, area_len ho ha, hz]
  have HBL := Aside0.mk hbl
  have HBY := Aside0.mk (show Byt b by rw [hb]; exact hB.read ho _ _)
  rw [← hb] at hr
  have HR := Aside0.mk hr
  have htl : tail ≤ z := by have := readR_len b; rw [hr] at this; rw [← hbl]; exact this
  have HF2 := Aside0.mk (show d.fits (p2 : Nat) (List.replicate (z - tail) (0 : Int)).length by
    have := plc_fits ho ha (f := tail) (by rw [← hz]; exact htl)
    unfold Dm.fits
    rw [List.length_replicate, hp2, hz]
    omega)
  obtain ⟨zn, hzn⟩ : ∃ n, n = z - tail := ⟨_, rfl⟩
  obtain ⟨t, ht⟩ : ∃ t, t = strOfNums (List.replicate zn 0) := ⟨_, rfl⟩
  rw [← hzn] at HF2
  have HT := Aside0.mk ht
  have HZN := Aside0.mk hzn
  have HZI := Aside0.mk (show (z : Int) - (tail : Int) = (zn : Int) by omega)
  have hznl : zn ≤ 262144 := by omega
  have u3 : IntKind.i64.wrap (32 + (m : Int) + (tail : Int)) = 32 + (m : Int) + (tail : Int) := IntWalk.i64_in _ ⟨by omega, by omega⟩
  have u4 : IntKind.i64.wrap ((z : Int) - (tail : Int)) = (z : Int) - (tail : Int) := IntWalk.i64_in _ ⟨by omega, by omega⟩
  have t0 : True := trivial
  have t1 : True := trivial
  clear h hg0 hg1 hs hB ho hz hp hb hbl hr hsb hpm hmm hp2 hpm2 hzn ht
  rcases hw with ⟨k1, k2, rfl, rfl⟩ | ⟨k1, k2, rfl, rfl⟩
  all_goals
    go_enter Try.func41, Try.ntmps41
    go_wp2_with (first
      | (go_at_call 77; have _t := t0; clear t0; go_must (refine (RefTold_at HH.out HO.out (by omega) HB.out 0 (by omega) HG0.out).mono ?_; rintro e w1 ⟨rfl, h⟩; have HI := Aside0.mk h; clear h HH))
      | (go_at_call 77; have _t := t1; clear t1; go_must (refine (RefTold_at HI.out HO.out (by omega) HB.out 1 (by omega) HG1.out).mono ?_; rintro e w1 ⟨rfl, h⟩; have HJ := Aside0.mk h; clear h HI))
      | (go_at_call 78; go_must (refine (RefSize HJ.out (by omega) hhi).mono ?_; rw [← HZ.out]; rintro e w1 ⟨rfl, rfl⟩))
      | (go_at_call 43; go_must (refine (RefRead_int HJ.out HO.out (by omega) _ p z HPM.out HF.out s HBB.out).mono ?_; rintro e w2 ⟨rfl, h⟩; have HK := Aside0.mk h; clear h HJ))
      | (go_at_call 31; go_must (refine (RefRead_n HK.out b s (by rw [HBL.out]; omega) HBY.out HSB.out).mono ?_; rw [HR.out]; rintro e w3 ⟨v, rfl, h⟩; obtain ⟨A7, c7, hv7, k7, _⟩ := h.raw; rw [rowsR_len] at hv7; subst hv7; have HL := Aside0.mk h; clear h HK k7)))
    have HRC := Aside0.mk (raw_of HL.out)
    go_loopw [15, 16, 17] (fun v15 v16 v17 wr => ∃ (k : Nat) (P R : List (List Int)) (A5 A6 : Option Addr) (c5 c6 : Nat), v17 = .int .i64 k ∧ k ≤ L.length ∧ v15 = .slice A5 P.length c5 ∧ v16 = .slice A6 R.length c6 ∧ P.length ≤ k ∧ R.length ≤ k ∧
        Aside0 (splitR L [] [] = splitR (L.drop k) P R) ∧ Aside0 (Here w wr (RawT 1 9 v15 (strsR P) :: RawT 1 9 v16 (strsR R) :: RawT 2 55 (.slice A7 L.length c7) (rowsR L) :: CellsT g (refC d va vt) 125 :: RawT 1 3 va (atsR d.q) :: RawT 1 9 vt (txtR d.q) :: Ps))) (fun _ _ v17 _ => L.length - (intOf v17).toNat)
    case atStart => exact ⟨0, [], [], none, none, 0, 0, rfl, by omega, rfl, rfl, by simp, by simp, ⟨by simp⟩, ⟨(HL.out.addRaw 1 9).addRaw 1 9⟩⟩
    case round =>
      clear HL HRC
      obtain ⟨k, P, R, A5, A6, c5, c6, rfl, hk, rfl, rfl, hp1, hr1, HS, HI⟩ := hrel
      by_cases hlt : k < L.length
      · have q1 : decide ((k : Int) < (L.length : Int)) = true := decide_eq_true (by omega)
        have v1 : IntKind.i64.wrap ((k : Int) + 1) = (k : Int) + 1 := IntWalk.i64_in _ ⟨by omega, by omega⟩
        have HRC := Aside0.mk (raw_of HI.out.third)
        obtain ⟨ad, hA7, e0, e1⟩ := atRaw2 (i := k) (u0 := .int .i64 L[k].1) (u1 := .string (strOfNums L[k].2)) HRC.out (by unfold rowsR; rw [List.getElem?_map, List.getElem?_eq_getElem hlt]; rfl)
        subst hA7
        replace HS := Aside0.mk (HS.out.trans (congrArg (fun x => splitR x P R) (drop_at hlt)))
        generalize L[k] = r at e0 e1 HS
        obtain ⟨kd, pb⟩ := r
        simp only at e0 e1
        obtain ⟨sp, hsp⟩ : ∃ sp, sp = strOfNums pb := ⟨_, rfl⟩
        have HSP := Aside0.mk hsp
        rw [← hsp] at e1
        have hpl := Aside0.mk (strsR_len P)
        have hrl := Aside0.mk (strsR_len R)
        clear hsp HRC
        rcases (show (kd = 1 ∧ R = []) ∨ (¬ (kd = 1 ∧ R = []) ∧ kd = 2) ∨ (¬ (kd = 1 ∧ R = []) ∧ ¬ kd = 2) by
          by_cases x1 : kd = 1 ∧ R = []
          · exact .inl x1
          · by_cases x2 : kd = 2
            · exact .inr (.inl ⟨x1, x2⟩)
            · exact .inr (.inr ⟨x1, x2⟩)) with ⟨y1, y2⟩ | ⟨y1, y2⟩ | ⟨y1, y2⟩
        · have HS2 := Aside0.mk (HS.out.trans (splitR_part y1 y2))
          have hr0 : ((R.length : Int) == 0) = true := beq_iff_eq.mpr (by rw [y2]; rfl)
          have q2 : (kd == 1) = true := beq_iff_eq.mpr y1
          clear y1 y2 HS
          go_wp2_with (at_builtin; go_must (refine text_app1 (HI.out.alloc _) rfl (.tmp 73) (.tmp 79) rfl sp _ rfl rfl (heap_at rfl) (by rw [hpl.out]; omega) ?_); intro v7 w8 h; obtain ⟨A9, c9, hv9, k9, _⟩ := h.raw; rw [List.length_append, hpl.out] at hv9; subst hv9; have HI4 := Aside0.mk h; clear HI h k9)
          go_roundw
          case rel =>
            refine ⟨k + 1, P ++ [pb], R, A9, A6, c9, c6, by go_num, by omega, by rw [List.length_append]; rfl, rfl, by rw [List.length_append]; simp; omega, by omega, HS2, ⟨?_⟩⟩
            rw [← strsR_snoc HSP.out]
            exact HI4.out
          case measure => simp [intOf]; omega
        · have HS2 := Aside0.mk (HS.out.trans (splitR_rec y2))
          have q2 : (kd == 1) = false := beq_eq_false_iff_ne.mpr (by omega)
          have q3 : (kd == 2) = true := beq_iff_eq.mpr y2
          clear y1 y2 HS
          go_wp2_with (at_builtin; go_must (refine text_app1 ((HI.out.alloc _).swap) rfl (.tmp 87) (.tmp 93) rfl sp _ rfl rfl (heap_at rfl) (by rw [hrl.out]; omega) ?_); intro v7 w8 h; obtain ⟨A9, c9, hv9, k9, _⟩ := h.raw; rw [List.length_append, hrl.out] at hv9; subst hv9; have HI4 := Aside0.mk h.swap; clear HI h k9)
          go_roundw
          case rel =>
            refine ⟨k + 1, P, R ++ [pb], A5, A9, c5, c9, by go_num, by omega, rfl, by rw [List.length_append]; rfl, by omega, by rw [List.length_append]; simp; omega, HS2, ⟨?_⟩⟩
            rw [← strsR_snoc HSP.out]
            exact HI4.out
          case measure => simp [intOf]; omega
        · have HS2 := Aside0.mk (HS.out.trans (splitR_no y1 y2))
          have q3 : (kd == 2) = false := beq_eq_false_iff_ne.mpr y2
          by_cases gk : kd = 1
          · have hr0 : ((R.length : Int) == 0) = false := by
              refine beq_eq_false_iff_ne.mpr (fun hz => y1 ⟨gk, List.length_eq_zero_iff.1 (by omega)⟩)
            have q2 : (kd == 1) = true := beq_iff_eq.mpr gk
            clear y1 y2 HS gk
            go_wp2_with fail
            (try simp only [Exit.inBlock, Exit.then])
            refine bodyPost_ret (results_tmp4 rfl _ _ _) rfl ?_
            exact .inr ⟨HS2.out, rfl, HI.out.drop.drop.drop⟩
          · have q2 : (kd == 1) = false := beq_eq_false_iff_ne.mpr gk
            clear y1 y2 HS gk
            go_wp2_with fail
            (try simp only [Exit.inBlock, Exit.then])
            refine bodyPost_ret (results_tmp4 rfl _ _ _) rfl ?_
            exact .inr ⟨HS2.out, rfl, HI.out.drop.drop.drop⟩
      · have q1 : decide ((k : Int) < (L.length : Int)) = false := decide_eq_false (by omega)
        obtain rfl : k = L.length := by omega
        have HS2 := Aside0.mk (show splitR L [] [] = some (P, R) by rw [HS.out, List.drop_length]; rfl)
        have HJ := Aside0.mk (show RefH w wr g d va vt (RawT 1 9 (.slice A5 P.length c5) (strsR P) :: RawT 1 9 (.slice A6 R.length c6) (strsR R) :: Ps) from (Here.nth (Here.nth (Here.nth (Here.nth (Here.nth (Here.nth HI.out 2 (by simp)).drop 1 (by simp)) 1 (by simp)) 4 (by simp)) 4 (by simp)) 4 (by simp)))
        clear HI
        go_wp2_with (first
          | (go_at_call 78; go_must (refine (RefSize HJ.out (by omega) hhi).mono ?_; rw [← HZ.out]; rintro e w1 ⟨rfl, rfl⟩))
          | (go_at_call 79; go_must (refine (RefZero_int _ zn HZI.out t HT.out _ hznl).mono ?_; rintro e w5 ⟨rfl, hb⟩; have HQ := Aside0.mk (HJ.out.then_ hb : RefH w w5 g d va vt _); clear hb HJ))
          | (go_at_call 38; go_must (refine (RefWrite_int HQ.out HO.out (by omega) _ p2 (List.replicate zn 0) t HPM2.out HT.out HF2.out).mono ?_; rintro e w6 ⟨rfl, va', vt', h⟩; have HM := Aside0.mk h; clear h HQ)))
        (try simp only [Exit.inBlock, Exit.then])
        refine bodyPost_ret (results_tmp4 rfl _ _ _) rfl ?_
        have hy := HM.out.newCells (rlC g ⟨gen, area, tail, 0, 0, 0⟩ ⟨#[]⟩) 101
        refine .inl ⟨P, R, _, _, _, va', vt', HS2.out, rfl, ?_⟩
        rw [← HZ.out, ← HZN.out, ← HP2.out]
        exact hy
end
end Go.Proofs.Ytmbemlpmfklddaa.Own
namespace Go.Proofs.Ytmbemlpmfklddaa.Own
open Go.RowKit Go.Proofs.YtmbemlpmfklddaaW.PrintWords Go.Proofs.YtmbemlpmfklddaaW.PrintLast Go.Proofs.YtmbemlpmfklddaaW.PrintMore
/-- A write, if it fits; what it answers. -/
def dmW (d : Dm) (p : Int) (l : List Int) : Dm := if d.fits p l.length then d.write p l else d
def erW (d : Dm) (p : Int) (l : List Int) : Int := if d.fits p l.length then 0 else 1
theorem dmW_b (d : Dm) (p : Int) (l : List Int) : (dmW d p l).b = d.b := by unfold dmW; split <;> rfl
theorem dmW_ok {d : Dm} (h : d.Ok) (p : Int) (l : List Int) : (dmW d p l).Ok := by
  unfold dmW
  split
  · exact Dm.ok_write h ‹_›
  · exact h
theorem dmW_byt {d : Dm} (h : ByD d) (p : Int) {l : List Int} (hl : Byt l) : ByD (dmW d p l) := by
  unfold dmW
  split
  · exact h.write p hl
  · exact h
theorem dmW_q (d : Dm) (p : Int) (l : List Int) : (dmW d p l).q.length ≤ d.q.length + 1 := by
  unfold dmW
  split
  · simp [Dm.write]
  · omega
/-- Nothing is opened: why. -/
def FailsR (d : Dm) (er : Int) : Prop :=
  (∃ area, slotsG d = (0, area) ∧ er = 4) ∨ (∃ gen area tail L, slotsG d = (gen, area) ∧ gen ≠ 0 ∧ readR (areaB d area) = (L, tail, er) ∧ er ≠ 0) ∨
    (∃ gen area tail L, slotsG d = (gen, area) ∧ gen ≠ 0 ∧ readR (areaB d area) = (L, tail, 0) ∧ splitR L [] [] = none ∧ er = 3)
/-- A log is opened: which. -/
def OpensR (d : Dm) (gen : Int) (area tail : Nat) (L : List Rec) (P R : List (List Int)) : Prop :=
  slotsG d = (gen, area) ∧ gen ≠ 0 ∧ readR (areaB d area) = (L, tail, 0) ∧ splitR L [] [] = some (P, R)
theorem open_ways (d : Dm) : (∃ er, er ≠ 0 ∧ FailsR d er) ∨ ∃ gen area tail L P R, OpensR d gen area tail L P R := by
  obtain ⟨⟨gen, area⟩, hs⟩ : ∃ x, slotsG d = x := ⟨_, rfl⟩
  by_cases hg : gen = 0
  · subst hg
    exact .inl ⟨4, by decide, .inl ⟨area, hs, rfl⟩⟩
  · obtain ⟨⟨L, tail, er⟩, hr⟩ : ∃ x, readR (areaB d area) = x := ⟨_, rfl⟩
    by_cases he : er = 0
    · subst he
      cases hp : splitR L [] [] with
      | none => exact .inl ⟨3, by decide, .inr (.inr ⟨gen, area, tail, L, hs, hg, hr, hp, rfl⟩)⟩
      | some x =>
        obtain ⟨P, R⟩ := x
        exact .inr ⟨gen, area, tail, L, P, R, hs, hg, hr, hp⟩
    · exact .inl ⟨er, he, .inr (.inl ⟨gen, area, tail, L, hs, hg, hr, he⟩)⟩
theorem recs_few {d : Dm} (ho : d.Ok) {area tail : Nat} {L : List Rec} {er : Int} (ha : area ≤ 1) (hr : readR (areaB d area) = (L, tail, er)) : L.length ≤ 300000 := by
  have h1 := readR_num (areaB d area)
  rw [hr, area_len ho ha] at h1
  have h2 : Sz d ≤ 262144 := by unfold Sz; have := ho.hi; omega
  exact Nat.le_trans h1 (by omega)
section
variable {w W : World} {Ps : List Thing} {g : Nat} {d : Dm} {va vt : Value}
theorem Write_any (h : Here w W (DiskT g d :: Ps)) (hq : d.q.length ≤ 1000000) (p : Int) (A : Option Addr) (c : Nat) (l : List Int) (hl : (Kd.int .u8).C W A l.length l) :
    Calls Try.prog 21 #[.pointer (some ⟨g, 0, none⟩), .int .i64 p, .slice A l.length c] W fun e W' => e = .returned (.int .i64 (erW d p l)) ∧ Here w W' (DiskT g (dmW d p l) :: Ps) := by
  unfold erW dmW
  by_cases hf : d.fits p l.length
  · rw [if_pos hf, if_pos hf]
    exact Write_here h hq p A c l hl hf
  · rw [if_neg hf, if_neg hf]
    refine (WriteNo_here h p A c l.length hl.2.1 hf).mono ?_
    rintro e W' ⟨rfl, rfl⟩
    exact ⟨rfl, h⟩
theorem RefWrite_any (h : RefH w W g d va vt Ps) (ho : d.Ok) (hq : d.q.length ≤ 999990) (p : Int) (l : List Int) (s : ByteArray) (hs : s = strOfNums l) (hp : -9223372036854775808 ≤ p ∧ p ≤ 9223372036854775807) (hl : l.length ≤ 300000) :
    Calls Try.prog 38 #[.pointer (some ⟨g, 0, none⟩), .int .i64 p, .string s] W fun e W' => e = .returned (.int .i64 (erW d p l)) ∧ ∃ va' vt', RefH w W' g (dmW d p l) va' vt' Ps := by
  have hz : s.size = l.length := by rw [hs, strOfNums_size]
  unfold erW dmW
  by_cases hf : d.fits p l.length
  · rw [if_pos hf, if_pos hf]
    exact RefWrite12 h ho hq p l s hs hf
  · rw [if_neg hf, if_neg hf]
    refine (RefWriteNo h p s hp (by omega) ho.hi (by rw [hz]; exact hf)).mono ?_
    rintro e W' ⟨rfl, rfl⟩
    exact ⟨rfl, va, vt, h⟩
theorem Open_fails (h : Here w W (DiskT g d :: Ps)) (hq : d.q.length ≤ 999000) (hB : ByD d) (er : Int) (hf : FailsR d er) :
    Calls Try.prog 40 #[.pointer (some ⟨g, 0, none⟩)] W fun e W' => e = .returned (.tuple #[.pointer none, .slice none 0 0, .slice none 0 0, .int .i64 er]) ∧ Here w W' (DiskT g d :: Ps) := by
  rcases hf with ⟨area, h1, rfl⟩ | ⟨gen, area, tail, L, h1, h2, h3, h4⟩ | ⟨gen, area, tail, L, h1, h2, h3, h4, rfl⟩
  · exact Open_none h hq hB area h1
  · exact Open_bad h hq hB gen area tail L er h1 h2 h3 h4
  · have ha : area ≤ 1 := by have := (slots_range hB h.diskOk).2; rw [h1] at this; exact this
    exact Open_form h hq hB gen area tail L h1 h2 h3 (recs_few h.diskOk ha h3) h4
theorem RefOpen_fails (h : RefH w W g d va vt Ps) (ho : d.Ok) (hq : d.q.length ≤ 999000) (hB : ByD d) (er : Int) (hf : FailsR d er) :
    Calls Try.prog 41 #[.pointer (some ⟨g, 0, none⟩)] W fun e W' => e = .returned (.tuple #[.pointer none, .slice none 0 0, .slice none 0 0, .int .i64 er]) ∧ RefH w W' g d va vt Ps := by
  rcases hf with ⟨area, h1, rfl⟩ | ⟨gen, area, tail, L, h1, h2, h3, h4⟩ | ⟨gen, area, tail, L, h1, h2, h3, h4, rfl⟩
  · exact RefOpen_none h ho hq hB area h1
  · exact RefOpen_bad h ho hq hB gen area tail L er h1 h2 h3 h4
  · have ha : area ≤ 1 := by have := (slots_range hB ho).2; rw [h1] at this; exact this
    refine (RefOpen_go h ho hq hB gen area tail L h1 h2 h3 (recs_few ho ha h3)).mono ?_
    rintro e W' (⟨P, R, _, _, _, _, _, h5, _⟩ | ⟨_, h6, h7⟩)
    · rw [h4] at h5; cases h5
    · exact ⟨h6, h7⟩
/-- The disk behind an opening. -/
def opnD (d : Dm) (area tail : Nat) : Dm := d.write (plc d area tail) (List.replicate (Sz d - tail) 0)
theorem RefOpen_opens (h : RefH w W g d va vt Ps) (ho : d.Ok) (hq : d.q.length ≤ 999000) (hB : ByD d) (gen : Int) (area tail : Nat) (L : List Rec) (P R : List (List Int)) (hf : OpensR d gen area tail L P R) :
    Calls Try.prog 41 #[.pointer (some ⟨g, 0, none⟩)] W fun e W' => ∃ gl vp vr va' vt', e = .returned (.tuple #[.pointer (some ⟨gl, 0, none⟩), vp, vr, .int .i64 0]) ∧
      Here w W' (CellsT gl (rlC g ⟨gen, area, tail, 0, 0, 0⟩ ⟨#[]⟩) 101 :: CellsT g (refC (opnD d area tail) va' vt') 125 :: RawT 1 3 va' (atsR (opnD d area tail).q) :: RawT 1 9 vt' (txtR (opnD d area tail).q) :: RawT 1 9 vp (strsR P) :: RawT 1 9 vr (strsR R) :: Ps) := by
  obtain ⟨h1, h2, h3, h4⟩ := hf
  have ha : area ≤ 1 := by have := (slots_range hB ho).2; rw [h1] at this; exact this
  refine (RefOpen_go h ho hq hB gen area tail L h1 h2 h3 (recs_few ho ha h3)).mono ?_
  rintro e W' (⟨P', R', gl, vp, vr, va', vt', h5, h6, h7⟩ | ⟨h5, _, _⟩)
  · rw [h4] at h5
    injection h5 with h5
    injection h5 with h8 h9
    subst h8 h9
    exact ⟨gl, vp, vr, va', vt', h6, h7⟩
  · rw [h4] at h5; cases h5
theorem Open_opens (h : Here w W (DiskT g d :: Ps)) (hq : d.q.length ≤ 999000) (hB : ByD d) (gen : Int) (area tail : Nat) (L : List Rec) (P R : List (List Int)) (hf : OpensR d gen area tail L P R) :
    Calls Try.prog 40 #[.pointer (some ⟨g, 0, none⟩)] W fun e W' => ∃ gl vp vr, e = .returned (.tuple #[.pointer (some ⟨gl, 0, none⟩), vp, vr, .int .i64 0]) ∧
      Here w W' (LogT gl g ⟨gen, area, tail, 0, 0, 0⟩ (.slice none 0 0) :: DiskT g (opnD d area tail) :: TwoT vp P vr R :: Ps) := by
  obtain ⟨h1, h2, h3, h4⟩ := hf
  have ha : area ≤ 1 := by have := (slots_range hB h.diskOk).2; rw [h1] at this; exact this
  exact Open_yes h hq hB gen area tail L P R h1 h2 h3 (recs_few h.diskOk ha h3) h4
theorem same_nil (w : World) : Calls Try.prog 42 #[.slice none 0 0, .slice none 0 0] w fun e w' => e = .returned (.bool true) ∧ Below w.heap.size w w' :=
  same_yes none none 0 0 [] w ⟨rfl, by decide, fun h => by simp at h⟩ ⟨rfl, by decide, fun h => by simp at h⟩
end
end Go.Proofs.Ytmbemlpmfklddaa.Own
