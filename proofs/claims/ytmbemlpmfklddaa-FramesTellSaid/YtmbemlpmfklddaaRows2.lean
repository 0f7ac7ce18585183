/- Slices of slices of bytes that a call puts together, and cuts of bytes. -/
import Derived.Test.YtmbemlpmfklddaaBase
namespace Go.Proofs.Ytmbemlpmfklddaa.Own
open Go.RowKit Go.Proofs.YtmbemlpmfklddaaW.PrintWords Go.Proofs.YtmbemlpmfklddaaW.PrintLast Go.Proofs.YtmbemlpmfklddaaW.PrintMore
theorem info22 : (Try.prog.info? 22).map (fun i => (i.zero, i.size, i.bytes)) = some (some (.slice none 0 0), 1, 24) := by kernel_rfl
/-- Bytes of a length, as a kind. -/
abbrev BL := Kd.slice 5 (Kd.int .u8)
section
variable {ops : Array Oper} {rest : List Oper} {o : Oper} {a : Act} {Q : Exit → Act → World → Prop}
theorem app_slice {w0 W : World} (base : Nat) (hgd : o.guard = none) (s x : Operand) (ho : o.op = .call { callee := .builtin .append, args := #[s, x], argTypes := #[29, 29] })
    (v : Value) (L : List (List Int)) (l : List Int) (A : Option Addr) (c : Nat) (ok okp : Nat → Prop) (hs : a.eval s = v) (hx : a.eval x = .slice (some ⟨W.heap.size, 0, none⟩) 1 1)
    (hc : l.length ≤ c) (hF : Kd.F (Kd.int .u8) W okp A l.length l) (hokp : ∀ k, okp k → ok k ∧ some k ≠ v.ownBlock) (hfresh : ∀ k, W.heap.size ≤ k → ok k)
    (HO : Kd.N BL 22 W base ok v L) (HB : Below base w0 W) (hbase : base ≤ W.heap.size) (hl : L.length + 1 ≤ 5000000000000)
    (h : ∀ v1 w1, Kd.N BL 22 w1 base ok v1 (L ++ [l]) → Below base w0 w1 → W.grownBy w1 v.ownBlock → (v1.ownBlock = v.ownBlock ∨ ∃ b, v1.ownBlock = some b ∧ W.heap.size ≤ b) → wpList Try.prog ops Q rest (a.put o.dst v1) w1) :
    wpList Try.prog ops Q (o :: rest) a (W.alloc (.cells #[.slice A l.length c] 22)) :=
  Kd.N_append BL base hgd s x 29 22 (.slice none 0 0) 24 ho Try.underlying29 info22 rfl (by decide) (by omega) v L l [.slice A l.length c] ok okp hs hx (Kd.FK_slice_mk hc hF) hokp hfresh HO HB hbase (by omega) h
end
theorem run_take (A : Option Addr) (n c : Nat) (m : Int) (h0 : 0 ≤ m) (hm : m ≤ n) (hc : n ≤ c) :
    ∀ W : World, (Instr.slice 22 (.slice A n c) none (some (.int .i64 m)) none).run Try.prog W = .ok (.slice A m.toNat c) W := by
  obtain ⟨i0, hi, hzz⟩ := Option.map_eq_some_iff.1 info5
  exact cut_to 22 5 .i64 Try.underlying22 hi A n c m h0 hm hc
theorem run_drop (A : Option Addr) (n c : Nat) (m : Int) (h0 : 0 ≤ m) (hm : m ≤ n) :
    ∀ W : World, (Instr.slice 22 (.slice A n c) (some (.int .i64 m)) none none).run Try.prog W = .ok (.slice (if c = m.toNat then A else A.map (·.add (m.toNat * 1))) (n - m.toNat) (c - m.toNat)) W := by
  obtain ⟨i0, hi, hzz⟩ := Option.map_eq_some_iff.1 info5
  simp only [Prod.mk.injEq] at hzz
  exact cut_from 22 5 .i64 Try.underlying22 hi 1 hzz.2.1 A n c m h0 hm
end Go.Proofs.Ytmbemlpmfklddaa.Own
