/- A writer of bytes: a number, a text, all bytes. A writer of bytes, new; a text; all bytes. A packet's bytes. A packet's bytes. -/
import Derived.Test.YtmapdfommjcebaaGreatLgb
import Derived.Test.YtmapdfommjcebaaGreatPTopWipedx9
import Derived.Deep.RegionHeld3
namespace Go.Proofs.YtmapdfommjcebaaGreat.Own
open Go.RowKit Go.Proofs.YtmapdfommjcebaaGreatW.PrintWords Go.Proofs.YtmapdfommjcebaaGreatW.PrintLast Go.Proofs.YtmapdfommjcebaaGreatW.PrintMore
theorem own_lit (W : World) (x : Int) (base : Nat) (hb : base ≤ W.heap.size) : OwnB (W.alloc (.cells #[.int .u8 x] 5)) base (.slice (some ⟨W.heap.size, 0, none⟩) 1 1) [x] :=
  ⟨rfl, .inr ⟨_, 1, #[.int .u8 x], rfl, hb, heap_alloc_new _ _, Nat.le_refl _, by simp [maxLen], rfl, rfl⟩⟩
theorem Here.addLit {w W : World} {Ps : List Thing} (h : Here w W Ps) (x : Int) : Here w (W.alloc (.cells #[.int .u8 x] 5)) (BytesT (.slice (some ⟨W.heap.size, 0, none⟩) 1 1) [x] :: Ps) :=
  h.addBytes (below_alloc (Below.refl _ _) _) (own_lit _ _ _ (Nat.le_refl _))
theorem Byt.set {l : List Int} (h : Byt l) (i : Nat) (y : Int) (hy : 0 ≤ y ∧ y < 256) : Byt (l.set i y) := fun x hx => by
  rcases List.mem_or_eq_of_mem_set hx with h1 | h1
  · exact h x h1
  · rw [h1]; exact hy
theorem Byt.getD {l : List Int} (h : Byt l) (i : Nat) : 0 ≤ l.getD i 0 ∧ l.getD i 0 < 256 := by
  rw [List.getD_eq_getElem?_getD]
  cases he : l[i]? with
  | none => simp
  | some x => exact h x (List.mem_of_getElem? he)
set_option maxHeartbeats 8000000 in
set_option maxRecDepth 100000 in
theorem Reverse_here {w W : World} {Ps : List Thing} {g n cap : Nat} {l : List Int} (h : Here w W (BytesT (.slice (some ⟨g, 0, none⟩) n cap) l :: Ps)) (hb : Byt l) (hl : l.length ≤ 1000000) :
    Calls Tryz.prog 50 #[.slice (some ⟨g, 0, none⟩) n cap] W fun e W' => e = .returned (.tuple #[]) ∧ ∃ r : List Int, r.length = l.length ∧ Byt r ∧ Here w W' (BytesT (.slice (some ⟨g, 0, none⟩) n cap) r :: Ps) := by
  have HN := Aside0.mk (OwnB.cap h.bytes).1
  have hn : n ≤ 1000000 := by rw [HN.out]; exact hl
  have HH := Aside0.mk h
  have HBY := Aside0.mk hb
  clear h hb hl
  have u0 : IntKind.i64.wrap ((n : Int) - 1) = (n : Int) - 1 := IntWalk.i64_in _ ⟨by omega, by omega⟩
  go_enter Tryz.func50, Tryz.ntmps50
  go_wp2_with fail
  go_loopw [2, 3] (fun v2 v3 wr => ∃ (i : Nat) (j : Int) (xs : List Int), v2 = .int .i64 i ∧ v3 = .int .i64 j ∧ i ≤ n ∧ -1 ≤ j ∧ j < n ∧ Aside0 (xs.length = l.length) ∧ Aside0 (Byt xs) ∧ Aside0 (Here w wr (BytesT (.slice (some ⟨g, 0, none⟩) n cap) xs :: Ps))) (fun v2 v3 _ => (intOf v3 - intOf v2).toNat)
  case atStart => exact ⟨0, _, l, rfl, rfl, by omega, by omega, by omega, ⟨rfl⟩, HBY, HH⟩
  case round =>
    clear HH HBY u0
    obtain ⟨i, j, xs, rfl, rfl, hi, hj0, hj, HX, HBY, HH⟩ := hrel
    by_cases hlt : (i : Int) < j
    · obtain ⟨k, rfl⟩ : ∃ k : Nat, j = k := ⟨j.toNat, by omega⟩
      have u1 : IntKind.i64.wrap ((i : Int) + 1) = (i : Int) + 1 := IntWalk.i64_in _ ⟨by omega, by omega⟩
      have u2 : IntKind.i64.wrap ((k : Int) - 1) = (k : Int) - 1 := IntWalk.i64_in _ ⟨by omega, by omega⟩
      have q1 : decide ((i : Int) < (k : Int)) = true := decide_eq_true hlt
      have q2 : i < k := by omega
      have q3 : i < n := by omega
      have q4 : k < n := by omega
      have hne : i ≠ k := by omega
      have hne2 : k ≠ i := by omega
      obtain ⟨b0, f0⟩ := HH.out.byteAt i q3
      obtain ⟨b1, f1⟩ := HH.out.byteAt k q4
      have HY0 := Aside0.mk (HBY.out.getD i)
      have HY1 := Aside0.mk (HBY.out.getD k)
      generalize xs.getD i 0 = x at b0 HY0
      generalize xs.getD k 0 = y at b1 HY1
      go_wp2_with fail
      go_region
      all_goals
        go_wp2_with fail
        go_roundw
        case rel => exact ⟨i + 1, (k : Int) - 1, (xs.set i y).set k x, by go_num, by go_num, by omega, by omega, by omega, ⟨by rw [List.length_set, List.length_set]; exact HX.out⟩, ⟨(HBY.out.set i y HY1.out).set k x HY0.out⟩, ⟨((HH.out.put i y).put k x).drew⟩⟩
        case measure => simp [intOf]; omega
    · have q1 : decide ((i : Int) < j) = false := decide_eq_false hlt
      go_wp2_with fail
      go_end0
      exact ⟨rfl, xs, HX.out, HBY.out, HH.out⟩
set_option maxHeartbeats 8000000 in
set_option maxRecDepth 100000 in
theorem Num_here {w W : World} {Ps : List Thing} {g : Nat} {v : Value} {l : List Int} (h : Here w W (CellsT g #[v] 118 :: BytesT v l :: Ps)) (n : Int) (h0 : 0 ≤ n) (h1 : n < 18446744073709551616) (hb : Byt l) (hl : l.length ≤ 1000000) :
    Calls Tryz.prog 21 #[.pointer (some ⟨g, 0, none⟩), .int .u64 n] W fun e W' => e = .returned (.pointer (some ⟨g, 0, none⟩)) ∧ ∃ v' l', Byt l' ∧ l'.length ≤ l.length + 10 ∧ Here w W' (CellsT g #[v'] 118 :: BytesT v' l' :: Ps) := by
  have HH := Aside0.mk (h.addLit (n % 128))
  have HBY := Aside0.mk hb
  have HB0 := Aside0.mk (show Byt [n % 128] from fun x hx => by obtain rfl := List.mem_singleton.1 hx; omega)
  have HP := Aside0.mk (show (n / 128) * 128 ^ [n % 128].length < 18446744073709551616 by show (n / 128) * 128 ^ 1 < _; omega)
  clear h hb
  go_enter Tryz.func21, Tryz.ntmps21
  go_wp2_with fail
  go_loopw [1, 5] (fun v1 v5 wr => ∃ (m : Int) (gL nL cL : Nat) (L : List Int), v1 = .int .u64 m ∧ v5 = .slice (some ⟨gL, 0, none⟩) nL cL ∧ 0 ≤ m ∧ m < 18446744073709551616 ∧ Aside0 (m * 128 ^ L.length < 18446744073709551616) ∧ Aside0 (Byt L) ∧ Aside0 (L.length ≤ 10) ∧ Aside0 (Here w wr (BytesT (.slice (some ⟨gL, 0, none⟩) nL cL) L :: CellsT g #[v] 118 :: BytesT v l :: Ps))) (fun v1 _ _ => (intOf v1).toNat)
  case atStart => exact ⟨_, _, _, _, _, rfl, rfl, by omega, by omega, HP, HB0, ⟨by simp⟩, HH⟩
  case round =>
    clear HH HB0 HP
    obtain ⟨m, gL, nL, cL, L, rfl, rfl, hm0, hm1, HP, HB0, HL, HH⟩ := hrel
    by_cases hlt : 0 < m
    · have q1 : decide (0 < m) = true := decide_eq_true hlt
      have HL9 := Aside0.mk (show L.length ≤ 9 by
        have h := HP.out
        by_cases hc : 10 ≤ L.length
        · have h2 : (128 : Int) ^ 10 ≤ 128 ^ L.length := by
            have := Nat.pow_le_pow_right (show 0 < 128 by omega) hc
            exact_mod_cast this
          have h3 : (1 : Int) * 128 ^ L.length ≤ m * 128 ^ L.length := Int.mul_le_mul_of_nonneg_right (by omega) (Int.le_of_lt (Int.lt_of_lt_of_le (by decide) h2))
          have h4 : (128 : Int) ^ 10 = 1180591620717411303424 := by decide
          omega
        · omega)
      obtain ⟨L2, hL2⟩ : ∃ L2, L2 = L ++ [m % 128 + 128] := ⟨_, rfl⟩
      have HP2 := Aside0.mk (show (m / 128) * 128 ^ L2.length < 18446744073709551616 by
        rw [hL2]
        show (m / 128) * 128 ^ (L ++ [m % 128 + 128]).length < 18446744073709551616
        have h := HP.out
        rw [List.length_append, List.length_singleton, Int.pow_succ]
        have h2 : (m / 128) * 128 ≤ m := by omega
        have h3 : ((m / 128) * 128) * 128 ^ L.length ≤ m * 128 ^ L.length := Int.mul_le_mul_of_nonneg_right h2 (Int.le_of_lt (Int.pow_pos (by decide)))
        have h4 : (m / 128) * (128 ^ L.length * 128) = ((m / 128) * 128) * 128 ^ L.length := by rw [Int.mul_comm (128 ^ L.length) 128, Int.mul_assoc]
        omega)
      have HB2 := Aside0.mk (show Byt L2 from hL2 ▸ HB0.out.append fun x hx => by obtain rfl := List.mem_singleton.1 hx; omega)
      have HL2 := Aside0.mk (show L2.length ≤ 10 by have := HL9.out; rw [hL2, List.length_append, List.length_singleton]; omega)
      have HL3 := Aside0.mk hL2
      clear hL2
      go_wp2_with (first
        | (at_builtin; go_must (refine app_here (HH.out.alloc _) rfl (.tmp 18) (.tmp 23) rfl [m % 128 + 128] _ _ _ rfl rfl rfl (C_one rfl rfl) (by have := HL9.out; simp only [List.length_singleton]; omega) ?_); intro v1 w1 h; rw [← HL3.out] at h; have hv := h.row (by rw [HL3.out]; simp); obtain ⟨g1, c1, rfl, _⟩ := hv; have HH1 := Aside0.mk h; clear h HH))
      go_roundw
      case rel => exact ⟨m / 128, _, _, _, _, rfl, rfl, by omega, by omega, HP2, HB2, HL2, HH1⟩
      case measure => simp [intOf]; omega
    · have q1 : decide (0 < m) = false := decide_eq_false hlt
      go_wp2_with (first
        | (go_at_call 50; go_must (refine (Reverse_here HH.out HB0.out (by have := HL.out; omega)).mono ?_; rintro e w2 ⟨rfl, r, hr, hy, h⟩; have HR := Aside0.mk hr; have HRY := Aside0.mk hy; have HH1 := Aside0.mk (Here.nth h 2 (by simp)); have c0 : w2.cell? ⟨g, 0, none⟩ = some v := cell_of_row _ g 0 _ _ _ (Here.nth h 1 (by simp)).cells; clear hr hy h HH))
        | (at_builtin; go_must (refine app_here HH1.out rfl (.tmp 31) (.tmp 32) rfl r _ _ _ rfl rfl (OwnB.cap (Here.nth HH1.out 1 (by simp)).bytes).1 (bytes_of (Here.nth HH1.out 1 (by simp))) (by have := HL.out; have := HR.out; omega) ?_); intro v1 w1 h; obtain ⟨l2, hl2⟩ : ∃ l2, l2 = l ++ r := ⟨_, rfl⟩; have HL2 := Aside0.mk hl2; rw [← hl2] at h; clear hl2; obtain ⟨A1, c1, rfl, z1, z2⟩ := OwnB.slice h.bytes; clear z1 z2; have HZ := Aside0.mk (Here.nth h 2 (by simp)); have e0 : w1.cell? ⟨g, 0, none⟩ = some v := cell_of_row _ g 0 _ _ _ HZ.out.cells; have f0 := blk_frozen HZ.out.cells 0; have HQ := Aside0.mk (show Byt l2 from HL2.out ▸ HBY.out.append HRY.out); have HQL := Aside0.mk (show l2.length ≤ l.length + 10 by have := HL.out; have := HR.out; rw [HL2.out, List.length_append]; omega); clear h HH1 c0))
      go_ret
      exact ⟨rfl, _, l2, HQ.out, HQL.out, (Here.nth (HZ.out.putCell 0 (.slice A1 l2.length c1)) 2 (by simp)).drop⟩
end Go.Proofs.YtmapdfommjcebaaGreat.Own
namespace Go.Proofs.YtmapdfommjcebaaGreat.Own
open Go.RowKit Go.Proofs.YtmapdfommjcebaaGreatW.PrintWords Go.Proofs.YtmapdfommjcebaaGreatW.PrintLast Go.Proofs.YtmapdfommjcebaaGreatW.PrintMore
set_option maxHeartbeats 8000000 in
set_option maxRecDepth 100000 in
theorem wireNew_here {w W : World} {Ps : List Thing} (h : Here w W Ps) :
    Calls Tryz.prog 20 #[] W fun e W' => ∃ g, e = .returned (.pointer (some ⟨g, 0, none⟩)) ∧ Here w W' (CellsT g #[.slice none 0 0] 118 :: BytesT (.slice none 0 0) [] :: Ps) := by
  have HH := Aside0.mk h
  clear h
  go_enter Tryz.func20, Tryz.ntmps20
  go_wp2
  go_ret
  exact ⟨_, rfl, HH.out.addNil.newCells _ _⟩
set_option maxHeartbeats 8000000 in
set_option maxRecDepth 100000 in
theorem Bytes_here {w W : World} {Ps : List Thing} {g : Nat} {v : Value} {l : List Int} (h : Here w W (CellsT g #[v] 118 :: BytesT v l :: Ps)) (hl : l.length ≤ 1000000) :
    Calls Tryz.prog 26 #[.pointer (some ⟨g, 0, none⟩)] W fun e W' => ∃ u, e = .returned u ∧ Here w W' (BytesT u l :: CellsT g #[v] 118 :: BytesT v l :: Ps) := by
  have HH := Aside0.mk h
  obtain ⟨A, c, rfl, hc, hC⟩ := OwnB.slice h.swap.bytes
  have HC := Aside0.mk hC
  have e0 : W.cell? ⟨g, 0, none⟩ = some (.slice A l.length c) := cell_of_row _ g 0 _ _ _ h.cells
  clear h hc hC
  go_enter Tryz.func26, Tryz.ntmps26
  go_wp2_with (go_at_call 55; go_must (refine (Clone_calls A c l _ HC.out (by omega)).mono ?_; rintro e w1 ⟨u, rfl, ho, hb⟩; have HU := Aside0.mk (HH.out.addBytes hb ho); clear ho hb HH))
  go_ret
  exact ⟨u, rfl, HU.out⟩
set_option maxHeartbeats 8000000 in
set_option maxRecDepth 100000 in
theorem Text_here {w W : World} {Ps : List Thing} {g : Nat} {v : Value} {l : List Int} (h : Here w W (CellsT g #[v] 118 :: BytesT v l :: Ps)) (A : Option Addr) (n c : Nat) (d : List Int) (hn : n = d.length) (hC : ∀ W', Here w W' Ps → (Kd.int .u8).C W' A d.length d) (hd : d.length ≤ 1000000) (hb : Byt l) (hdb : Byt d) (hl : l.length ≤ 1000000) :
    Calls Tryz.prog 25 #[.pointer (some ⟨g, 0, none⟩), .slice A n c] W fun e W' => e = .returned (.pointer (some ⟨g, 0, none⟩)) ∧ ∃ v' l', Byt l' ∧ l'.length ≤ l.length + d.length + 10 ∧ Here w W' (CellsT g #[v'] 118 :: BytesT v' l' :: Ps) := by
  have HH := Aside0.mk h
  have HC := Aside0.mk hC
  have HBY := Aside0.mk hb
  have HDB := Aside0.mk hdb
  have HN := Aside0.mk hn
  have HL := Aside0.mk hl
  have hn2 : n ≤ 1000000 := by omega
  clear h hC hb hdb hn hl
  go_enter Tryz.func25, Tryz.ntmps25
  go_wp2_with (first
    | (go_at_call 21; go_must (refine (Num_here HH.out n (by omega) (by omega) HBY.out HL.out).mono ?_; rintro e w1 ⟨rfl, v1, l1, hy, hl1, h⟩; have HY1 := Aside0.mk hy; have HL1 := Aside0.mk hl1; have HH1 := Aside0.mk h.swap; have c0 : w1.cell? ⟨g, 0, none⟩ = some v1 := cell_of_row _ g 0 _ _ _ h.cells; clear hy hl1 h HH))
    | (at_builtin; go_must (refine app_here HH1.out rfl (.tmp 16) (.tmp 17) rfl d _ _ _ rfl rfl HN.out (HC.out _ HH1.out.drop.drop) (by have := HL.out; have := HL1.out; omega) ?_); intro v2 w2 h; obtain ⟨l2, hl2⟩ : ∃ l2, l2 = l1 ++ d := ⟨_, rfl⟩; have HL2 := Aside0.mk hl2; rw [← hl2] at h; clear hl2; obtain ⟨A1, c1, rfl, z1, z2⟩ := OwnB.slice h.bytes; clear z1 z2; have HZ := Aside0.mk h.swap; have e0 : w2.cell? ⟨g, 0, none⟩ = some v1 := cell_of_row _ g 0 _ _ _ HZ.out.cells; have f0 := blk_frozen HZ.out.cells 0; clear h HH1 c0))
  go_ret
  exact ⟨rfl, _, l2, HL2.out ▸ HY1.out.append HDB.out, by have := HL1.out; rw [HL2.out, List.length_append]; omega, HZ.out.putCell 0 (.slice A1 l2.length c1)⟩
end Go.Proofs.YtmapdfommjcebaaGreat.Own
namespace Go.Proofs.YtmapdfommjcebaaGreat.Own
open Go.RowKit Go.Proofs.YtmapdfommjcebaaGreatW.PrintWords Go.Proofs.YtmapdfommjcebaaGreatW.PrintLast Go.Proofs.YtmapdfommjcebaaGreatW.PrintMore
theorem pk_cells {w : World} {g : Nat} {a : Bool} {f t s : Int} {A : Option Addr} {n c : Nat} (h : w.heap[g]? = some (.cells #[Value.bool a, .int .i64 f, .int .i64 t, .int .u64 s, .slice A n c] 35 (0, 0))) :
    w.cell? ⟨g, 0, none⟩ = some (.bool a) ∧ w.cell? ⟨g, 1, none⟩ = some (.int .i64 f) ∧ w.cell? ⟨g, 2, none⟩ = some (.int .i64 t) ∧ w.cell? ⟨g, 3, none⟩ = some (.int .u64 s) ∧ w.cell? ⟨g, 4, none⟩ = some (.slice A n c) :=
  ⟨cell_of_row w g 0 _ _ _ h, cell_of_row w g 1 _ _ _ h, cell_of_row w g 2 _ _ _ h, cell_of_row w g 3 _ _ _ h, cell_of_row w g 4 _ _ _ h⟩
set_option maxHeartbeats 8000000 in
set_option maxRecDepth 100000 in
theorem put_here {w W : World} {Ps : List Thing} {g : Nat} {v : Value} {l : List Int} (h : Here w W (CellsT g #[v] 118 :: BytesT v l :: Ps)) (a : Bool) (f t s : Int) (A : Option Addr) (n c : Nat) (d : List Int) (hn : n = d.length) (hC : ∀ W', Here w W' Ps → (Kd.int .u8).C W' A d.length d) (hd : d.length ≤ 1000000) (hb : Byt l) (hdb : Byt d) (hl : l.length ≤ 100000)
    (hf : 0 ≤ f ∧ f ≤ 100) (ht : 0 ≤ t ∧ t ≤ 100) (hs : 0 ≤ s ∧ s < 18446744073709551616) :
    Calls Tryz.prog 53 #[.pointer (some ⟨g, 0, none⟩), .agg #[Value.bool a, .int .i64 f, .int .i64 t, .int .u64 s, .slice A n c]] W fun e W' => e = .returned (.tuple #[]) ∧ ∃ v' l', Byt l' ∧ l'.length ≤ l.length + d.length + 50 ∧ Here w W' (CellsT g #[v'] 118 :: BytesT v' l' :: Ps) := by
  have HH := Aside0.mk (h.newCells #[Value.bool a, .int .i64 f, .int .i64 t, .int .u64 s, .slice A n c] 35).third.third
  have HC := Aside0.mk hC
  have HBY := Aside0.mk hb
  have HDB := Aside0.mk hdb
  have HN := Aside0.mk hn
  have HL0 := Aside0.mk hl
  have HD := Aside0.mk hd
  have HL := Aside0.mk (Nat.le_refl l.length)
  obtain ⟨f0, f1⟩ := hf
  obtain ⟨t0, t1⟩ := ht
  obtain ⟨s0, s1⟩ := hs
  have u1 : IntKind.u64.wrap f = f := IntWalk.u64_in _ ⟨by omega, by omega⟩
  have u2 : IntKind.u64.wrap t = t := IntWalk.u64_in _ ⟨by omega, by omega⟩
  clear h hC hb hdb hn hl hd
  cases a
  · go_enter Tryz.func53, Tryz.ntmps53
    go_wp2_with fail
    obtain ⟨W1, hW1⟩ : ∃ W1, W1 = W.alloc (.cells #[Value.bool false, .int .i64 f, .int .i64 t, .int .u64 s, .slice A n c] 35) := ⟨_, rfl⟩
    have HH1 := Aside0.mk HH.out.drew
    clear HH
    rw [← hW1] at HH1 ⊢
    clear hW1
    have HB := Aside0.mk (Here.nth HH1.out 2 (by simp)).cells
    go_region_held3 (fun w' => w'.cell? ⟨W.heap.size, 0, none⟩ = some (.bool false) ∧ w'.cell? ⟨W.heap.size, 1, none⟩ = some (.int .i64 f) ∧ w'.cell? ⟨W.heap.size, 2, none⟩ = some (.int .i64 t) ∧ w'.cell? ⟨W.heap.size, 3, none⟩ = some (.int .u64 s) ∧ w'.cell? ⟨W.heap.size, 4, none⟩ = some (.slice A n c))
      (first | (focus (refine pk_cells ?_; (repeat (first | with_reducible refine blk_drew ?_ | exact HB.out)); done)))
      (first | (go_at_call 21; go_must (refine (Num_here HH1.out _ (by omega) (by omega) HBY.out (by have := HL.out; have := HL0.out; omega)).mono ?_; rintro e w1 ⟨rfl, v1, l1, hy, hl1, h⟩; have HY1 := Aside0.mk hy; have HL1 := Aside0.mk (Nat.le_trans hl1 (Nat.add_le_add_right HL.out 10)); have HB1 := Aside0.mk (Here.nth h 2 (by simp)).cells; have HH2 := Aside0.mk h; clear hy hl1 h HH1 HBY HL HB; have HBY := HY1; have HL := HL1; have HB := HB1; have HH1 := HH2; clear HY1 HL1 HB1 HH2)))
    obtain ⟨c0, c1, c2, c3, c4⟩ := pk_cells HB.out
    go_wp2_with (first
      | (go_at_call 25; go_must (refine (Text_here HH1.out A n c d HN.out (fun W' h => HC.out W' h.drop) HD.out HBY.out HDB.out (by have := HL.out; have := HL0.out; omega)).mono ?_; rintro e w1 ⟨rfl, v1, l1, hy, hl1, h⟩; have HY1 := Aside0.mk hy; have HL1 := Aside0.mk hl1; have HH2 := Aside0.mk h; clear hy hl1 h HH1)))
    go_end0
    exact ⟨rfl, _, _, HY1.out, by have := HL1.out; have := HL.out; omega, (Here.nth HH2.out 2 (by simp)).drop⟩
  · go_enter Tryz.func53, Tryz.ntmps53
    go_wp2_with fail
    obtain ⟨W1, hW1⟩ : ∃ W1, W1 = W.alloc (.cells #[Value.bool true, .int .i64 f, .int .i64 t, .int .u64 s, .slice A n c] 35) := ⟨_, rfl⟩
    have HH1 := Aside0.mk HH.out.drew
    clear HH
    rw [← hW1] at HH1 ⊢
    clear hW1
    have HB := Aside0.mk (Here.nth HH1.out 2 (by simp)).cells
    go_region_held3 (fun w' => w'.cell? ⟨W.heap.size, 0, none⟩ = some (.bool true) ∧ w'.cell? ⟨W.heap.size, 1, none⟩ = some (.int .i64 f) ∧ w'.cell? ⟨W.heap.size, 2, none⟩ = some (.int .i64 t) ∧ w'.cell? ⟨W.heap.size, 3, none⟩ = some (.int .u64 s) ∧ w'.cell? ⟨W.heap.size, 4, none⟩ = some (.slice A n c))
      (first | (focus (refine pk_cells ?_; (repeat (first | with_reducible refine blk_drew ?_ | exact HB.out)); done)))
      (first | (go_at_call 21; go_must (refine (Num_here HH1.out _ (by omega) (by omega) HBY.out (by have := HL.out; have := HL0.out; omega)).mono ?_; rintro e w1 ⟨rfl, v1, l1, hy, hl1, h⟩; have HY1 := Aside0.mk hy; have HL1 := Aside0.mk (Nat.le_trans hl1 (Nat.add_le_add_right HL.out 10)); have HB1 := Aside0.mk (Here.nth h 2 (by simp)).cells; have HH2 := Aside0.mk h; clear hy hl1 h HH1 HBY HL HB; have HBY := HY1; have HL := HL1; have HB := HB1; have HH1 := HH2; clear HY1 HL1 HB1 HH2)))
    obtain ⟨c0, c1, c2, c3, c4⟩ := pk_cells HB.out
    go_wp2_with fail
    go_end0
    exact ⟨rfl, _, _, HBY.out, by have := HL.out; omega, (Here.nth HH1.out 2 (by simp)).drop⟩
end Go.Proofs.YtmapdfommjcebaaGreat.Own
namespace Go.Proofs.YtmapdfommjcebaaGreat.Own
open Go.RowKit Go.Proofs.YtmapdfommjcebaaGreatW.PrintWords Go.Proofs.YtmapdfommjcebaaGreatW.PrintLast Go.Proofs.YtmapdfommjcebaaGreatW.PrintMore
theorem packet_right {a : Bool} {f t s : Int} {d : List Int} (h : PTopWiped.packet_Right.f a f t s d = some true) : d.length ≤ 1800 ∧ 1 ≤ f ∧ f ≤ 12 ∧ 1 ≤ t ∧ t ≤ 12 ∧ 1 ≤ s ∧ s ≤ 1099511627776 := by
  unfold PTopWiped.packet_Right.f PTopWiped.packet_isNode.f PTopWiped.packet_isData.f at h
  by_cases h1 : f ≥ 1
  · by_cases h2 : f ≤ 12
    · by_cases h3 : t ≥ 1
      · by_cases h4 : t ≤ 12
        · by_cases h5 : f = t
          · subst h5
            simp [h3, h4] at h
          · by_cases h6 : 1 ≤ s
            · by_cases h7 : s ≤ 1099511627776
              · cases a
                · by_cases h8 : 1 ≤ (d.length : Int)
                  · simp [h1, h2, h3, h4, h5, h6, h7, h8] at h
                    omega
                  · simp [h1, h2, h3, h4, h5, h6, h7, h8] at h
                · simp [h1, h2, h3, h4, h5, h6, h7] at h
                  subst h
                  simp
                  omega
              · simp [h1, h2, h3, h4, h5, h6, h7] at h
            · simp [h1, h2, h3, h4, h5, h6] at h
        · simp [h1, h2, h3, h4] at h
      · simp [h1, h2, h3] at h
    · simp [h1, h2] at h
  · simp [h1] at h
theorem Right_n (a : Bool) (f t s : Int) (A : Option Addr) (n c : Nat) (d : List Int) (r : Bool) (W : World) (hn : n = d.length) (hC : (Kd.int .u8).C W A d.length d) (hc : n ≤ c) (h : PTopWiped.packet_Right.f a f t s d = some r) :
    Calls Tryz.prog 47 #[.agg #[Value.bool a, .int .i64 f, .int .i64 t, .int .u64 s, .slice A n c]] W fun e w' => e = .returned (.bool r) ∧ Below W.heap.size W w' := by
  subst hn
  exact PTopWiped.packet_Right.calls a f t s A c d r W hC hc h
set_option maxHeartbeats 2000000 in
set_option maxRecDepth 100000 in
theorem packetWrite_here {w W : World} {Ps : List Thing} (h : Here w W Ps) (a : Bool) (f t s : Int) (A : Option Addr) (n c : Nat) (d : List Int) (hn : n = d.length) (hc : n ≤ c) (hC : ∀ W', Here w W' Ps → (Kd.int .u8).C W' A d.length d) (hdb : Byt d) (hr : PTopWiped.packet_Right.f a f t s d = some true) :
    Calls Tryz.prog 24 #[.agg #[Value.bool a, .int .i64 f, .int .i64 t, .int .u64 s, .slice A n c]] W fun e W' => ∃ u l, e = .returned (.tuple #[u, .int .i64 0]) ∧ Byt l ∧ l.length ≤ 2000 ∧ Here w W' (BytesT u l :: Ps) := by
  have HH := Aside0.mk (h.newCells #[Value.bool a, .int .i64 f, .int .i64 t, .int .u64 s, .slice A n c] 35)
  have HC := Aside0.mk hC
  have HDB := Aside0.mk hdb
  have HR := Aside0.mk hr
  have HCC := Aside0.mk hc
  have HN := Aside0.mk hn
  have HQ := Aside0.mk (packet_right hr)
  have t1 : True := trivial
  have t2 : True := trivial
  clear h hC hn hdb hr hc
  go_enter Tryz.func24, Tryz.ntmps24
  go_wp2_with (first
    | (go_at_call 47; go_must (refine (Right_n a f t s A n c d true _ HN.out (HC.out _ HH.out.drop) HCC.out HR.out).mono ?_; rintro e w1 ⟨rfl, h⟩; have HH1 := Aside0.mk (HH.out.then_ h); clear h HH; obtain ⟨c0, c1, c2, c3, c4⟩ := pk_cells HH1.out.cells))
    | (go_at_call 20; go_must (refine (wireNew_here HH1.out).mono ?_; rintro e w2 ⟨g, rfl, h⟩; have HH2 := Aside0.mk h; clear h HH1 c0 c1 c2 c3 c4; obtain ⟨c0, c1, c2, c3, c4⟩ := pk_cells (Here.nth HH2.out 2 (by simp)).cells))
    | (go_at_call 53; go_must (refine (put_here HH2.out a f t s A n c d HN.out (fun W' h => HC.out W' h.drop) (by have := HQ.out; omega) Byt.nil HDB.out (Nat.zero_le _) ⟨by have := HQ.out; omega, by have := HQ.out; omega⟩ ⟨by have := HQ.out; omega, by have := HQ.out; omega⟩ ⟨by have := HQ.out; omega, by have := HQ.out; omega⟩).mono ?_; rintro e w3 ⟨rfl, v3, l3, hy, hl, h⟩; have HY3 := Aside0.mk hy; have HL3 := Aside0.mk (show l3.length ≤ 1900 by have := HQ.out; simp only [List.length_nil] at hl; omega); have HH3 := Aside0.mk h; clear hy hl h HH2 c0 c1 c2 c3 c4))
    | (go_at_call 26; have _t := t1; clear t1; go_must (refine (Bytes_here HH3.out (by have := HL3.out; omega)).mono ?_; rintro e w4 ⟨u, rfl, h⟩; obtain ⟨A4, c4, rfl, hc4, hC4⟩ := OwnB.slice h.bytes; have HK4 := Aside0.mk hc4; have HC4 := Aside0.mk hC4; have HH4 := Aside0.mk h.drop; clear h HH3 hc4 hC4))
    | (go_at_call 54; go_must (refine (Of_calls A4 c4 l3 _ HC4.out HK4.out).mono ?_; obtain ⟨k, hk, hk0, hk1⟩ : ∃ k, k = crcOf l3 ∧ 0 ≤ k ∧ k < 4294967296 := ⟨_, rfl, of_range l3⟩; rw [← hk]; clear hk; have u3 : IntKind.u64.wrap k = k := IntWalk.u64_in _ ⟨by omega, by omega⟩; rintro e w5 ⟨rfl, h⟩; have HH5 := Aside0.mk (HH4.out.then_ h); clear h HH4))
    | (go_at_call 21; go_must (refine (Num_here HH5.out k hk0 (by omega) HY3.out (by have := HL3.out; omega)).mono ?_; rintro e w6 ⟨rfl, v6, l6, hy, hl, h⟩; have HY6 := Aside0.mk hy; have HL6 := Aside0.mk hl; have HH6 := Aside0.mk h; clear hy hl h HH5))
    | (go_at_call 26; have _t := t2; go_must (refine (Bytes_here HH6.out (by have := HL3.out; have := HL6.out; omega)).mono ?_; rintro e w7 ⟨u7, rfl, h⟩; have HH7 := Aside0.mk h; clear h HH6)))
  go_ret2
  exact ⟨_, l6, rfl, HY6.out, by have := HL3.out; have := HL6.out; omega, (Here.nth (Here.nth (Here.nth HH7.out 3 (by simp)).drop 2 (by simp)).drop 1 (by simp)).drop⟩
end Go.Proofs.YtmapdfommjcebaaGreat.Own
