/- The reference's disk: Write. -/
import Derived.Test.YtmbemlpmfklddaaRfA
import Derived.Deep.RegionLaw
import Derived.Deep.DrawnRows
namespace Go.Proofs.Ytmbemlpmfklddaa.Own
open Go.RowKit Go.Proofs.YtmbemlpmfklddaaW.PrintWords Go.Proofs.YtmbemlpmfklddaaW.PrintLast Go.Proofs.YtmbemlpmfklddaaW.PrintMore
attribute [local go_sem ↓] Go.wp_at_zero Go.wp_at_succ
theorem info9 : (Try.prog.info? 9).map (fun i => (i.zero, i.size, i.bytes)) = some (some (.string ⟨#[]⟩), 1, 16) := by kernel_rfl
theorem oneS (s : ByteArray) : ∀ u ∈ [Value.string s], u.oneCell' = true := by
  intro u hu
  rw [List.mem_singleton.1 hu]
  rfl
section
variable {w W : World} {Ps : List Thing} {v : Value} {rows : List (List Value)} {ops : Array Oper} {o : Oper} {a : Act} {Q : Exit → Act → World → Prop} {Kc : Act → World → Prop}
/-- append(texts, s): s in a literal of one element. -/
theorem text_app (H : Here w W (RawT 1 9 v rows :: Ps)) (hw : Region.wanted o (yielded ops a.tmps) = true) (s x : Operand) (ho : o.op = .call { callee := .builtin .append, args := #[s, x], argTypes := #[73, 73] })
    (t : ByteArray) (g : Nat) (hs : a.eval s = v) (hx : a.eval x = .slice (some ⟨g, 0, none⟩) 1 1) (hb : W.heap[g]? = some (.cells #[.string t] 9 (0, 0))) (hl : rows.length ≤ 1000000)
    (h : ∀ v1 w1, Here w w1 (RawT 1 9 v1 (rows ++ [[.string t]]) :: Ps) → W.grownBy w1 v.ownBlock → Kc (a.put o.dst v1) w1) :
    if Region.wanted o (yielded ops a.tmps) = true then Oper.wp Try.prog o a W Kc Q else Kc (a.put o.dst undef) W :=
  raw_app_step 1 73 9 (.string ⟨#[]⟩) 16 H hw s x ho Try.underlying73 info9 rfl (by decide) (by decide) [[.string t]] _ 1 1 hs hx (raw_lit (cs := [.string t]) hb rfl (oneS t)) (by omega) h
end
section
variable {w W : World} {Ps : List Thing} {g : Nat} {d : Dm} {va vt : Value}
set_option maxHeartbeats 8000000 in
set_option maxRecDepth 100000 in
theorem RefWriteNo (h : RefH w W g d va vt Ps) (p : Int) (s : ByteArray) (hp : -9223372036854775808 ≤ p ∧ p ≤ 9223372036854775807) (hs : s.size ≤ 300000) (h2 : d.b.length ≤ 262144) (hf : ¬ d.fits p s.size) :
    Calls Try.prog 38 #[.pointer (some ⟨g, 0, none⟩), .int .i64 p, .string s] W fun e W' => e = .returned (.int .i64 1) ∧ W = W' := by
  have HH := Aside0.mk h
  have HM := Aside0.mk (decide_eq_false hf)
  clear h hf
  go_enter Try.func38, Try.ntmps38
  go_wp2_with (go_at_call 69; go_must (refine (RefMay HH.out p s.size hp ⟨by omega, by omega⟩ h2).mono ?_; rw [HM.out]; rintro e w1 ⟨rfl, rfl⟩))
  go_ret
  exact ⟨rfl, rfl⟩
theorem ref_at {Qs : List Thing} {cs : Array Value} {t : TypeId} (h : Here w W (CellsT g cs t :: Qs)) : (∀ (i : Nat) (u : Value), cs[i]? = some u → W.cell? ⟨g, i, none⟩ = some u) ∧ (∀ i : Nat, W.frozen? ⟨g, i, none⟩ = false) ∧ g < W.heap.size :=
  ⟨fun i _ hu => (cell_of_row W g i _ _ _ h.cells).trans hu, fun i => blk_frozen h.cells i, blk_lt h.cells⟩
theorem ref_done {w4 : World} {v2 v3 : Value} {p : Int} {l : List Int} {s : ByteArray} (h : Here w w4 (RawT 1 9 v3 (txtR d.q ++ [[.string s]]) :: RawT 1 3 v2 (atsR d.q ++ [[.int .i64 p]]) :: CellsT g (refC d va vt) 125 :: Ps)) (hs : s = strOfNums l) :
    RefH w (((w4.setCell ⟨g, 1, none⟩ v2).setCell ⟨g, 2, none⟩ v3).setCell ⟨g, 4, none⟩ (.int .i64 (wrap64 (d.wr + s.size)))) g (d.write p l) v2 v3 Ps := by
  have hy := ((((h.third).under All.swap).putCell 1 v2).putCell 2 v3).putCell 4 (.int .i64 (wrap64 (d.wr + s.size)))
  have hz : s.size = l.length := by rw [hs, strOfNums_size]
  have hA : atsR (d.write p l).q = atsR d.q ++ [[.int .i64 p]] := by simp [atsR, Dm.write]
  have hT : txtR (d.write p l).q = txtR d.q ++ [[.string s]] := by rw [hs]; simp [txtR, Dm.write]
  unfold RefH
  rw [hA, hT]
  rw [hz] at hy ⊢
  exact hy
theorem ref_done' {w4 : World} {v2 v3 : Value} {p : Int} {l : List Int} {s : ByteArray} (h : Here w w4 (RawT 1 9 v3 (txtR d.q ++ [[.string s]]) :: RawT 1 3 v2 (atsR d.q ++ [[.int .i64 p]]) :: CellsT g (refC d va vt) 125 :: Ps)) (hs : s = strOfNums l) :
    RefH w (((w4.setCell ⟨g, 2, none⟩ v3).setCell ⟨g, 1, none⟩ v2).setCell ⟨g, 4, none⟩ (.int .i64 (wrap64 (d.wr + s.size)))) g (d.write p l) v2 v3 Ps := by
  have hy := ((((h.third).under All.swap).putCell 2 v3).putCell 1 v2).putCell 4 (.int .i64 (wrap64 (d.wr + s.size)))
  have hz : s.size = l.length := by rw [hs, strOfNums_size]
  have hA : atsR (d.write p l).q = atsR d.q ++ [[.int .i64 p]] := by simp [atsR, Dm.write]
  have hT : txtR (d.write p l).q = txtR d.q ++ [[.string s]] := by rw [hs]; simp [txtR, Dm.write]
  unfold RefH
  rw [hA, hT]
  rw [hz] at hy ⊢
  exact hy
set_option maxHeartbeats 20000000 in
set_option maxRecDepth 100000 in
theorem RefWrite12 (h : RefH w W g d va vt Ps) (ho : d.Ok) (hq : d.q.length ≤ 999990) (p : Int) (l : List Int) (s : ByteArray) (hs : s = strOfNums l) (hf : d.fits p l.length) :
    Calls Try.prog 38 #[.pointer (some ⟨g, 0, none⟩), .int .i64 p, .string s] W fun e W' => e = .returned (.int .i64 0) ∧ ∃ va' vt', RefH w W' g (d.write p l) va' vt' Ps := by
  have HH := Aside0.mk h
  have hhi := ho.hi
  obtain ⟨m1, m2, f3⟩ := hf
  have hsz : s.size = l.length := by rw [hs, strOfNums_size]
  have HM := Aside0.mk (show decide (d.fits p s.size) = true from decide_eq_true ⟨m1, by omega, by omega⟩)
  have hsl : s.size ≤ 262144 := by omega
  have hpr : -9223372036854775808 ≤ p ∧ p ≤ 9223372036854775807 := ⟨by omega, by omega⟩
  have HSZ := Aside0.mk hsz
  have HS := Aside0.mk hs
  obtain ⟨At, ct, rfl, hCt⟩ := ref_txt h
  obtain ⟨Aa, ca, rfl, hCa⟩ := ref_ats h
  have HK8 := Aside0.mk (h.swap).rawLt
  have HK9 := Aside0.mk (h.third).rawLt
  have hal := Aside0.mk (atsR_len d.q)
  have htl := Aside0.mk (txtR_len d.q)
  obtain ⟨hc, hfz, hg⟩ := ref_at h
  have c1 : W.cell? ⟨g, 1, none⟩ = some (.slice Aa d.q.length ca) := hc 1 _ rfl
  have c2 : W.cell? ⟨g, 2, none⟩ = some (.slice At d.q.length ct) := hc 2 _ rfl
  have f1 := hfz 1
  have f2 := hfz 2
  have t1 : True := trivial
  have t2 : True := trivial
  clear h ho m1 m2 f3 hsz hs hCt hCa hc hfz
  go_enter Try.func38, Try.ntmps38
  go_wp2_with (go_at_call 69; go_must (refine (RefMay HH.out p s.size hpr ⟨by omega, by omega⟩ hhi).mono ?_; rw [HM.out]; rintro e w1 ⟨rfl, rfl⟩))
  go_region_law (first
    | (have _t := t1; refine ends_app (w := w) (v := .slice Aa d.q.length ca) (Ps := CellsT g (refC d (.slice Aa d.q.length ca) (.slice At d.q.length ct)) 125 :: RawT 1 9 (.slice At d.q.length ct) (txtR d.q) :: Ps) (rows := atsR d.q) ?hH rfl (.tmp 18) (.tmp 20) rfl p _ rfl rfl ?hR (by rw [hal.out]; omega) ?_; (case hH => (focus (refine Here.swap ?_; (repeat (first | exact HH.out | with_reducible refine Here.alloc ?_ _ | with_reducible refine Here.drew ?_)); done))); (case hR => (focus ((repeat (first | (refine heap_at ?_; first | rfl | (simp; done)) | with_reducible refine blk_alloc ?_ _ | with_reducible refine blk_drew ?_)); done))); intro v2 w3 h hg3; obtain ⟨A2, c2', hv2, k2, _⟩ := h.raw; rw [List.length_append, hal.out] at hv2; subst hv2; have HA := Aside0.mk h; have HG := Aside0.mk hg3; obtain ⟨hc, hfz, hg3⟩ := ref_at h.swap; have x1 : w3.cell? ⟨g, 1, none⟩ = some (.slice Aa d.q.length ca) := hc 1 _ rfl; have x2 : w3.cell? ⟨g, 2, none⟩ = some (.slice At d.q.length ct) := hc 2 _ rfl; have y1 := hfz 1; have y2 := hfz 2; clear h hc hfz t1 k2)
    | (have _t := t2; refine text_app (w := w) (v := .slice At d.q.length ct) (Ps := RawT 1 3 (.slice A2 (d.q.length + 1) c2') (atsR d.q ++ [[.int .i64 p]]) :: CellsT g (refC d (.slice Aa d.q.length ca) (.slice At d.q.length ct)) 125 :: Ps) (rows := txtR d.q) ?hH rfl (.tmp 25) (.tmp 27) rfl s _ rfl rfl ?hR (by rw [htl.out]; omega) ?_; (case hH => (focus (refine Here.third ?_; (repeat (first | exact HA.out | with_reducible refine Here.alloc ?_ _ | with_reducible refine Here.drew ?_)); done))); (case hR => (focus ((repeat (first | (refine heap_at ?_; first | rfl | (simp; done)) | with_reducible refine blk_alloc ?_ _ | with_reducible refine blk_drew ?_ | with_reducible refine blk_grown ?_ HG.out (fresh_ne HK8.out (by omega)))); done))); intro v3 w4 h hg4; obtain ⟨A3, c3', hv3, k3, _⟩ := h.raw; rw [List.length_append, htl.out] at hv3; subst hv3; have HE := Aside0.mk h; obtain ⟨hc, hfz, hg5⟩ := ref_at h.third; have x3 : w4.cell? ⟨g, 1, none⟩ = some (.slice Aa d.q.length ca) := hc 1 _ rfl; have x4 : w4.cell? ⟨g, 2, none⟩ = some (.slice At d.q.length ct) := hc 2 _ rfl; have y3 := hfz 1; have y4 := hfz 2; have x5 : w4.cell? ⟨g, 4, none⟩ = some (.int .i64 d.wr) := hc 4 _ rfl; have y5 := hfz 4; clear h hc hfz t2 hg4 k3))
  all_goals
    go_wp2_with fail
    go_ret
    first
      | exact ⟨rfl, _, _, ref_done HE.out HS.out⟩
      | exact ⟨rfl, _, _, ref_done' HE.out HS.out⟩
end
end Go.Proofs.Ytmbemlpmfklddaa.Own
