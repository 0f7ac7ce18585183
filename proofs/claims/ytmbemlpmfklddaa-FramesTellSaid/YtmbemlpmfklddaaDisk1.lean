/- The disk of the program, in memory: New, Waits, slices.Clone. -/
import Derived.Test.YtmbemlpmfklddaaChg
import Derived.Deep.DeepMust
import Derived.Lib.SliceRun
namespace Go.Proofs.Ytmbemlpmfklddaa.Own
open Go.RowKit Go.Proofs.YtmbemlpmfklddaaW.PrintWords Go.Proofs.YtmbemlpmfklddaaW.PrintLast Go.Proofs.YtmbemlpmfklddaaW.PrintMore
set_option maxHeartbeats 400000 in
set_option maxRecDepth 100000 in
theorem Clone_calls (A : Option Addr) (c : Nat) (l : List Int) (w : World) (h : (Kd.int .u8).C w A l.length l) (hl : l.length ≤ 140737488355328) :
    Calls Try.prog 61 #[.slice A l.length c] w fun e w' => ∃ v, e = .returned v ∧ OwnB w' w.heap.size v l ∧ Below w.heap.size w w' := by
  have H := Aside0.mk h
  have HB := Aside0.mk (Below.refl w.heap.size w)
  rcases A with _ | a
  · have h0 : l = [] := by
      rcases l with _ | ⟨x, l⟩
      · rfl
      · obtain ⟨ad, he, _⟩ := h.2.2 (by simp)
        cases he
    subst h0
    clear h H HB
    have hnil := fun (W : World) (a : Option Addr) (n c : Nat) => Lib.run_eql_slice_nil (P := Try.prog) W 22 5 a n c 0 0 Try.underlying22
    go_enter Try.func61, Try.ntmps61
    go_wp2_with fail
    go_ret
    exact ⟨_, rfl, own_nil _ _ _ _, Below.refl _ _⟩
  · clear h
    have hnil := fun (W : World) (a : Option Addr) (n c : Nat) => Lib.run_eql_slice_nil (P := Try.prog) W 22 5 a n c 0 0 Try.underlying22
    go_enter Try.func61, Try.ntmps61
    go_wp2_with (at_builtin; go_must (refine app_bytes w.heap.size rfl (.tmp 5) (.tmp 6) rfl _ [] l _ l.length c rfl rfl rfl (own_empty _ _ (Nat.le_refl _)) (Kd.C_below H.out (below_alloc (Below.refl _ _) _)) (below_alloc HB.out _) (below_alloc HB.out _).size (by simp; omega) ?_); intro v1 w1 O1 B1' G1; clear G1 HB; have HO := Aside0.mk O1; have HB := Aside0.mk B1'; clear O1 B1')
    go_ret
    exact ⟨v1, rfl, HO.out, HB.out⟩
set_option maxHeartbeats 400000 in
set_option maxRecDepth 100000 in
theorem New_yes (n : Nat) (w : World) (h1 : 64 ≤ n) (h2 : n ≤ 262144) :
    Calls Try.prog 20 #[.int .i64 n] w fun e w' => ∃ g S, e = .returned (.tuple #[.pointer (some ⟨g, 0, none⟩), .int .i64 0]) ∧ IsDisk w' S g (Dm.new n) ∧ (∀ k, S k → w.heap.size ≤ k) ∧ Below w.heap.size w w' := by
  have hmk := print_make (P := Try.prog) 22 5 .u8 1 Try.underlying22 info5 (by omega) n (by omega)
  go_enter Try.func20, Try.ntmps20
  go_wp2_with fail
  go_ret2
  have hb1 := below_alloc (Below.refl w.heap.size w) (.cells (madeCells #[Value.int IntKind.u8 0] n) 5)
  have hz : (w.alloc (Obj.cells (madeCells #[Value.int IntKind.u8 0] n) 5)).heap.size = w.heap.size + 1 := by simp
  refine ⟨w.heap.size + 1, fun k => k = w.heap.size ∨ k = w.heap.size + 1, rfl, ⟨w.heap.size, n, .slice none 0 0, ?_⟩, fun k hk => by omega, below_alloc hb1 _⟩
  have hO : OwnB (w.alloc (Obj.cells (madeCells #[Value.int IntKind.u8 0] n) 5)) 0 (.slice (some ⟨w.heap.size, 0, none⟩) n n) (List.replicate n 0) := by
    have := own_made w 0 5 .u8 n (by omega) (by omega)
    unfold OwnB
    rw [List.length_replicate]
    exact this
  have hlen : (Dm.new n).b.length = n := by simp [Dm.new]
  refine ⟨?_, ?_, Kd.N_nil _ _ _ _ _, Dm.ok_new h1 h2, .inr rfl, .inl rfl, by omega, fun k hk => by simp; omega⟩
  · rw [hlen, ← hz]
    exact heap_alloc_new _ _
  · rw [hlen]
    exact hO.below (below_alloc (Below.refl _ _) _)
theorem New_no (n : Int) (w : World) (h : n < 64 ∨ 262144 < n) :
    Calls Try.prog 20 #[.int .i64 n] w fun e w' => e = .returned (.tuple #[.pointer none, .int .i64 1]) ∧ w = w' := by
  by_cases c : n < 64
  · clear h
    go_enter Try.func20, Try.ntmps20
    go_wp2_with fail
    go_ret2
    exact ⟨rfl, rfl⟩
  · have c2 : 262144 < n := by omega
    clear h
    go_enter Try.func20, Try.ntmps20
    go_wp2_with fail
    go_ret2
    exact ⟨rfl, rfl⟩
/-- The i-th write that waits, in memory. -/
theorem q_at {w : World} {base : Nat} {ok : Nat → Prop} {ad : Addr} {n c : Nat} {q : List (Int × List Int)} (h : Kd.N WK 114 w base ok (.slice (some ad) n c) q) (k : Nat) (hk : k < q.length) :
    ∃ A c', w.cell? (ad.add (k * 2)) = some (.int .i64 q[k].1) ∧ w.cell? ⟨(ad.add (k * 2)).block, (ad.add (k * 2)).off + 1, none⟩ = some (.slice A q[k].2.length c') ∧ q[k].2.length ≤ c' ∧ Kd.F (Kd.int .u8) w ok A q[k].2.length q[k].2 := by
  obtain ⟨hn, _, _⟩ := Kd.N_reads' h
  have hF := Kd.N_F h
  obtain ⟨ad', cs, he, hcl, hK, hcc, _⟩ := Kd.F_get hF q[k] (k : Int) (by omega) (by omega)
  injection he with he
  subst he
  have hg : q.getD (k : Int).toNat q[k] = q[k] := by simp [List.getD_eq_getElem?_getD, hk]
  rw [hg] at hK
  obtain ⟨c0, c1, rfl, h0, ⟨A, c', rfl, hl, _⟩⟩ := Kd.FK_now hK
  have h0' : c0 = [.int .i64 q[k].1] := h0
  subst h0'
  have hcc' : ∀ j u, ([Value.int .i64 q[k].1] ++ [.slice A q[k].2.length c'])[j]? = some u → w.cell? (ad.add ((k : Int).toNat * 2 + j)) = some u := hcc
  refine ⟨A, c', hcc' 0 _ rfl, ?_, hl, fun W' hW => ?_⟩
  · rw [← add_field _ _ 1 (by omega)]
    exact hcc' 1 _ rfl
  · obtain ⟨d0, d1, he2, g0, ⟨A2, c2, rfl, _, hC⟩⟩ := hK W' hW
    have g0' : d0 = [.int .i64 q[k].1] := g0
    subst g0'
    injection he2 with _ he2
    injection he2 with he2 _
    injection he2 with ha _ _
    subst ha
    exact hC
theorem DiskAt.below {S : Nat → Prop} {w w1 : World} {g gb cap : Nat} {vq : Value} {d : Dm} (h : DiskAt w S g gb cap vq d) (hb : Below w.heap.size w w1) : DiskAt w1 S g gb cap vq d := h.chg (Chg.of_below (fun _ => False) hb) (fun _ _ hf => hf)
theorem sum_le (q : List (Int × List Int)) (m : Nat) (h : ∀ w ∈ q, w.2.length ≤ m) : (q.map fun w => w.2.length).sum ≤ q.length * m := by
  induction q with
  | nil => simp
  | cons w q ih =>
    have h1 := h w (by simp)
    have h2 := ih (fun v hv => h v (List.mem_cons_of_mem _ hv))
    rw [List.map_cons, List.sum_cons, List.length_cons, Nat.add_mul, Nat.one_mul]
    omega
def waitsTo (q : List (Int × List Int)) (k : Nat) : Nat := ((q.take k).map fun w => w.2.length).sum
theorem waitsTo_succ (q : List (Int × List Int)) (k : Nat) (h : k < q.length) : waitsTo q (k + 1) = waitsTo q k + q[k].2.length := by
  unfold waitsTo
  rw [List.take_succ_eq_append_getElem h, List.map_append, List.sum_append]
  simp
theorem q_ptr {w : World} {base : Nat} {ok : Nat → Prop} {A : Option Addr} {n c : Nat} {q : List (Int × List Int)} (h : Kd.N WK 114 w base ok (.slice A n c) q) (hk : 0 < q.length) : ∃ ad, A = some ad := by
  obtain ⟨g, cap, he, _⟩ := Kd.N_form h hk
  injection he with he
  exact ⟨_, he⟩
set_option maxHeartbeats 800000 in
set_option maxRecDepth 100000 in
theorem Waits_at {S : Nat → Prop} {g gb cap : Nat} {vq : Value} {d : Dm} {w : World} (h : DiskAt w S g gb cap vq d) (hq : d.q.length ≤ 1000000) :
    Calls Try.prog 26 #[.pointer (some ⟨g, 0, none⟩)] w fun e w' => e = .returned (.int .i64 d.waits) ∧ Below w.heap.size w w' := by
  have H := Aside0.mk h
  have HB := Aside0.mk (Below.refl w.heap.size w)
  obtain ⟨h0, h1, h2, h3⟩ := h.at_
  obtain ⟨A, c, hv⟩ := Kd.N_slice h.queue
  subst hv
  clear h h0 h2 h3
  go_enter Try.func26, Try.ntmps26
  go_wp2_with fail
  go_loopw [3, 13] (fun v3 v13 wr => ∃ (k : Nat), k ≤ d.q.length ∧ v13 = .int .i64 k ∧ v3 = .int .i64 (waitsTo d.q k) ∧ Aside0 (Below w.heap.size w wr)) (fun _ v13 _ => d.q.length - (intOf v13).toNat)
  case atStart => exact ⟨0, by omega, rfl, rfl, HB⟩
  case round =>
    clear HB
    obtain ⟨k, hk, rfl, rfl, HB⟩ := hrel
    by_cases hlt : k < d.q.length
    · obtain ⟨ad, rfl⟩ := q_ptr H.out.queue (by omega)
      obtain ⟨A2, c2, e1, e2, hl2, _⟩ := q_at (H.out.below HB.out).queue k hlt
      have hs1 := sum_le (d.q.take k) 262144 (fun v hv => by have := H.out.ok.fit v (List.mem_of_mem_take hv); have := H.out.ok.hi; omega)
      have hs2 : (d.q.take k).length ≤ 1000000 := by rw [List.length_take]; omega
      have hs3 : waitsTo d.q k ≤ 1000000 * 262144 := Nat.le_trans hs1 (Nat.mul_le_mul_right _ hs2)
      have hs4 : d.q[k].2.length ≤ 262144 := by have := H.out.ok.fit _ (List.getElem_mem hlt); have := H.out.ok.hi; omega
      have hst := waitsTo_succ d.q k hlt
      generalize hx : waitsTo d.q k = x at hs3 hst ⊢
      generalize d.q[k].2.length = y at hst e2 hs4
      generalize d.q[k].1 = z at e1
      have HX := Aside0.mk hst
      clear hs1 hs2 hst hx hl2
      go_wp2_with fail
      go_roundw
      case rel => exact ⟨k + 1, by omega, by go_num, by rw [HX.out]; go_num, ⟨below_alloc HB.out _⟩⟩
      case measure => simp [intOf]; omega
    · obtain rfl : k = d.q.length := by omega
      go_wp2_with fail
      go_ret
      exact ⟨by unfold waitsTo; rw [List.take_length]; rfl, HB.out⟩
end Go.Proofs.Ytmbemlpmfklddaa.Own
