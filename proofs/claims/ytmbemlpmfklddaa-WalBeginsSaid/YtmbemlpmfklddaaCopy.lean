/- copy into bytes of the call's own; what is read, behind one more write. -/
import Derived.Test.YtmbemlpmfklddaaDk1
import Derived.Deep.RegionLaw
import Derived.Deep.DeepMust
import Derived.Deep.QuietTactic
import Derived.BigQuiet
import Derived.Laws.CopyOwn
namespace Go.Proofs.Ytmbemlpmfklddaa.Own
open Go.RowKit Go.Proofs.YtmbemlpmfklddaaW.PrintWords Go.Proofs.YtmbemlpmfklddaaW.PrintLast Go.Proofs.YtmbemlpmfklddaaW.PrintMore
theorem run_mid (A : Option Addr) (n c : Nat) (lo hi : Int) (h0 : 0 ≤ lo) (h1 : lo ≤ hi) (h2 : hi ≤ n) (hc : n ≤ c) :
    ∀ W : World, (Instr.slice 22 (.slice A n c) (some (.int .i64 lo)) (some (.int .i64 hi)) none).run Try.prog W = .ok (.slice (if c = lo.toNat then A else A.map (·.add (lo.toNat * 1))) (hi.toNat - lo.toNat) (c - lo.toNat)) W := by
  obtain ⟨i0, hi0, hzz⟩ := Option.map_eq_some_iff.1 info5
  simp only [Prod.mk.injEq] at hzz
  exact cut_mid 22 5 .i64 .i64 Try.underlying22 hi0 1 hzz.2.1 A n c lo hi h0 h1 h2 hc
section
variable {ops : Array Oper} {o : Oper} {a : Act} {Q : Exit → Act → World → Prop} {K : Act → World → Prop} {E : Prop}
/-- copy into bytes of the call's own, from bytes that are read. -/
theorem copy_step {W : World} {base : Nat} (hgd : o.guard = none) (x y : Operand) (ho : o.op = .call { callee := .builtin .copy, args := #[x, y], argTypes := #[22, 22] })
    (g n cap off m dc sc : Nat) (sp : Option Addr) (xs ys : List Int) (hd : a.eval x = .slice (some ⟨g, off, none⟩) m dc) (hs : a.eval y = .slice sp m sc)
    (hO : OwnB W base (.slice (some ⟨g, 0, none⟩) n cap) xs) (hy : ys.length = m) (hC : (Kd.int .u8).C W sp ys.length ys) (hm : 0 < m) (hfit : off + m ≤ xs.length) (hn : xs.length = n)
    (h : ∀ w', OwnB w' base (.slice (some ⟨g, 0, none⟩) n cap) (Own.splice xs off ys) → W.grownBy w' (some g) → K (a.put o.dst (goInt ys.length)) w') :
    if Region.wanted o (yielded ops a.tmps) = true then Oper.wp Try.prog o a W K Q else E := by
  have hw : Region.wanted o (yielded ops a.tmps) = true := by simp [Region.wanted, hgd]
  rw [if_pos hw]
  subst hy
  obtain ⟨hl0, hrow⟩ := hO
  rcases hrow with ⟨he, _⟩ | ⟨g', cap', cur, he, hbg, hg, hnc, hcm, hcs, htk⟩
  · cases he
  injection he with e1 e2 e3
  injection e1 with e1
  injection e1 with e1 _ _
  subst e1 e3 e2
  obtain ⟨ad, rfl, hcc⟩ := hC.2.2 hm
  have hsrc : ∀ j v, (nums .u8 ys)[j]? = some v → W.cell? (ad.add j) = some v := by
    intro j v hv
    simp only [nums, List.getElem?_map, Option.map_eq_some_iff] at hv
    obtain ⟨z, hz, rfl⟩ := hv
    obtain ⟨c, _, hK, hcell⟩ := hcc j z hz
    have hc1 : c = [.int .u8 z] := hK
    subst hc1
    have := hcell 0 _ rfl
    rwa [show (Kd.int .u8).sz = 1 from rfl, Nat.mul_one, Nat.add_zero] at this
  rw [Nat.mul_one] at hcs htk
  have hln : (nums .u8 ys).length = ys.length := nums_length _ _
  have hrun := run_copy_row (P := Try.prog) W 22 22 o.type 5 g off ys.length dc ad ys.length sc cur 5 (nums .u8 ys) Try.underlying22 (by kernel_rfl) hg (by rw [hln]; simp) hsrc (by rw [hln]; omega) (by intro u hu; simp only [nums, List.mem_map] at hu; obtain ⟨q, _, rfl⟩ := hu; rfl)
  unfold Oper.wp
  rw [hln] at hrun
  simp [execOp, ho, resolve, invoke, builtin, hd, hs, hrun, Result.andThen]
  refine h _ ?_ ⟨rfl, rfl, rfl, by simp, fun k _ hk => setRow_other W g k _ (fun e => hk (by rw [e]))⟩
  have hlen : (Own.splice xs off ys).length = xs.length := splice_length hfit
  have hcl : cur.toList.take xs.length = nums .u8 xs := htk
  have hct : cur.toList.length = cur.size := Array.length_toList
  have hnx : (nums .u8 xs).length = xs.length := nums_length _ _
  refine ⟨by simp [nums], .inr ⟨g, cap, _, by rw [hlen], hbg, setRow_heap W g _ _ 5 _ hg, by rw [hlen]; exact hnc, hcm, ?_, ?_⟩⟩
  · simp only [List.size_toArray, List.length_append, List.length_take, List.length_drop, hln, hct]
    omega
  · rw [hlen, Nat.mul_one]
    obtain ⟨D, hD⟩ : ∃ D, cur.toList = nums .u8 xs ++ D := ⟨cur.toList.drop xs.length, by rw [← hcl, List.take_append_drop]⟩
    show ((cur.toList.take off ++ (nums .u8 ys ++ cur.toList.drop (off + ys.length)))).take xs.length = _
    have p1 : (nums .u8 xs ++ D).take off = (nums .u8 xs).take off := List.take_append_of_le_length (by omega)
    have p2 : (nums .u8 xs ++ D).drop (off + ys.length) = (nums .u8 xs).drop (off + ys.length) ++ D := List.drop_append_of_le_length (by omega)
    have p3 : ((nums .u8 xs).take off ++ nums .u8 ys ++ (nums .u8 xs).drop (off + ys.length)).length = xs.length := by simp [nums]; omega
    rw [hD, p1, p2, ← List.append_assoc, ← List.append_assoc, ← p3, List.take_left]
    simp [nums, Own.splice, List.map_take, List.map_drop]
end
/-! The window of what is read, behind one more write. -/
theorem win_in {b l : List Int} {p a n : Nat} (h1 : a + n ≤ b.length) (h2 : p + l.length ≤ b.length) {f t : Nat} (hf : f = max a p) (ht : t = min (a + n) (p + l.length)) (hft : f < t) :
    ((Own.splice b p l).drop a).take n = Own.splice ((b.drop a).take n) (f - a) ((l.drop (f - p)).take (t - f)) := by
  apply List.ext_getElem?
  intro i
  unfold Own.splice
  have e1 : (b.take p).length = p := by rw [List.length_take]; omega
  have e3 : (((b.drop a).take n).take (f - a)).length = f - a := by simp; omega
  have e4 : ((l.drop (f - p)).take (t - f)).length = t - f := by simp; omega
  rw [List.getElem?_take, List.append_assoc, List.append_assoc]
  by_cases hi : i < n
  · rw [if_pos hi, List.getElem?_drop]
    rcases Nat.lt_or_ge i (f - a) with c1 | c1
    · rw [List.getElem?_append_left (by omega : i < _)]
      rcases Nat.lt_or_ge (a + i) p with c2 | c2
      · rw [List.getElem?_append_left (by omega : a + i < _), List.getElem?_take, if_pos c2, List.getElem?_take, if_pos c1, List.getElem?_take, if_pos hi, List.getElem?_drop]
      · omega
    · rw [List.getElem?_append_right (by omega : _ ≤ i), e3]
      have c2 : p ≤ a + i := by omega
      rw [List.getElem?_append_right (by omega : _ ≤ a + i), e1]
      rcases Nat.lt_or_ge (i - (f - a)) (t - f) with c3 | c3
      · rw [List.getElem?_append_left (by omega : i - (f - a) < _), List.getElem?_append_left (by omega : a + i - p < _), List.getElem?_take, if_pos c3, List.getElem?_drop]
        congr 1
        omega
      · rw [List.getElem?_append_right (by omega : _ ≤ i - (f - a)), e4, List.getElem?_drop, List.getElem?_take]
        rw [if_pos (by omega), List.getElem?_drop]
        rcases Nat.lt_or_ge (a + i - p) l.length with c4 | c4
        · omega
        · rw [List.getElem?_append_right (by omega : _ ≤ a + i - p), List.getElem?_drop]
          congr 1
          omega
  · rw [if_neg hi, List.getElem?_eq_none]
    simp
    omega
theorem win_out {b l : List Int} {p a n : Nat} (_h1 : a + n ≤ b.length) (h2 : p + l.length ≤ b.length) (h : min (a + n) (p + l.length) ≤ max a p) :
    ((Own.splice b p l).drop a).take n = (b.drop a).take n := by
  apply List.ext_getElem?
  intro i
  unfold Own.splice
  have e1 : (b.take p).length = p := by rw [List.length_take]; omega
  rw [List.getElem?_take, List.getElem?_take]
  by_cases hi : i < n
  · rw [if_pos hi, if_pos hi, List.getElem?_drop, List.getElem?_drop, List.append_assoc]
    rcases Nat.lt_or_ge (a + i) p with c1 | c1
    · rw [List.getElem?_append_left (by omega : a + i < _), List.getElem?_take, if_pos c1]
    · rw [List.getElem?_append_right (by omega : _ ≤ a + i), e1, List.getElem?_append_right (by omega : _ ≤ a + i - p), List.getElem?_drop]
      congr 1
      omega
  · rw [if_neg hi, if_neg hi]
end Go.Proofs.Ytmbemlpmfklddaa.Own
