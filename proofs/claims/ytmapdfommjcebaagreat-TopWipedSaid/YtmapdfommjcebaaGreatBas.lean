/- The check sum as a plain function, and that crc.Join tells it: for all lists of bytes. Small facts on memory that the walks share: slices of bytes that stand in new blocks, and what a call keeps. The fixed calls of layer 1's laws come to true. The check sum by bit vectors, and that the reference tells the same sum. -/
import Derived.Test.YtmapdfommjcebaaGreatPTopWipedx10
import Derived.Outline
import Derived.WalkSpells
import Derived.WalkLawsBesides
import Derived.Lib.SlBytesConst
import Derived.Deep.RegionWith
import Derived.Deep.DeepMust
namespace Go.Proofs.YtmapdfommjcebaaGreat.Own
open Go.RowKit Go.Proofs.YtmapdfommjcebaaGreatW.PrintWords Go.Proofs.YtmapdfommjcebaaGreatW.PrintLast Go.Proofs.YtmapdfommjcebaaGreatW.PrintMore
open PTopWiped

def crcStep (x : Int) : Int := if x / 2147483648 = 1 then Go.bits .xor .u32 ((x * 2) % 4294967296) 79764919 else (x * 2) % 4294967296
def crcByte (s c : Int) : Int := crcStep (crcStep (crcStep (crcStep (crcStep (crcStep (crcStep (crcStep (Go.bits .xor .u32 s ((c % 4294967296 * 16777216) % 4294967296)))))))))
def crcSt (s : Int) (l : List Int) : Int := l.foldl crcByte s
def crcOf (l : List Int) : Int := Go.bits .xor .u32 (crcSt 4294967295 l) 4294967295

theorem on_l0_step (k : Nat) (x i : Int) (h0 : 0 ≤ i) (h : i < 8) : crc_on.l0 (k + 1) x i = crc_on.l0 k (crcStep x) (i + 1) := by
  have hw : wrap64 (i + 1) = i + 1 := by unfold wrap64; omega
  simp only [crc_on.l0, crcStep, hw]
  rw [if_pos h]
  split <;> rfl
theorem on_f (k : Nat) (s c : Int) : crc_on.f (k + 9) s c = some (crcByte s c) := by
  unfold crc_on.f
  rw [on_l0_step _ _ _ (by omega) (by omega), on_l0_step _ _ _ (by omega) (by omega), on_l0_step _ _ _ (by omega) (by omega), on_l0_step _ _ _ (by omega) (by omega), on_l0_step _ _ _ (by omega) (by omega), on_l0_step _ _ _ (by omega) (by omega), on_l0_step _ _ _ (by omega) (by omega), on_l0_step _ _ _ (by omega) (by omega)]
  simp only [crc_on.l0]
  rw [if_neg (by omega)]
  rfl
theorem join_l1 (x8 : List (List Int)) (x9 x10 : Int) (x14 : List Int) (hl : x14.length ≤ 9223372036854775807) (d : Nat) : ∀ (k : Nat) (s i : Int), 0 ≤ i → i + d = x14.length →
    crc_Join.l1 (k + 10 + d) s x8 x9 x10 x14 (x14.length : Int) i = crc_Join.l0 (k + 9) (crcSt s (x14.drop i.toNat)) x8 x9 (wrap64 (x10 + 1)) := by
  induction d with
  | zero =>
    intro k s i h0 hd
    have : x14.drop i.toNat = [] := List.drop_eq_nil_of_le (by omega)
    rw [this]
    simp only [crc_Join.l1]
    rw [if_neg (by omega)]
    rfl
  | succ d ih =>
    intro k s i h0 hd
    have hw : wrap64 (i + 1) = i + 1 := by unfold wrap64; omega
    have hi : i.toNat < x14.length := by omega
    obtain ⟨n, hn⟩ : ∃ n, n = k + 10 + d := ⟨_, rfl⟩
    rw [show k + 10 + (d + 1) = n + 1 by omega]
    simp only [crc_Join.l1]
    have hon := on_f (k + 1 + d) s (rd x14 i)
    rw [show k + 1 + d + 9 = n by omega] at hon
    rw [if_pos (by omega), if_pos (by omega), if_pos (by omega), hon, hw]
    simp only [Option.bind_some]
    rw [hn, ih k _ (i + 1) (by omega) (by omega)]
    congr 1
    rw [List.drop_eq_getElem_cons hi, show (i + 1).toNat = i.toNat + 1 by omega]
    simp only [crcSt, List.foldl_cons]
    congr 2
    simp [rd, List.getD_eq_getElem?_getD, List.getElem?_eq_getElem hi]
theorem join_l0 (L : List (List Int)) (hL : L.length ≤ 9223372036854775807) (hl : ∀ x ∈ L, x.length ≤ 9223372036854775807) (d : Nat) : ∀ (s i : Int), 0 ≤ i → i + d = L.length →
    ∃ k0, ∀ k, k0 ≤ k → crc_Join.l0 k s L (L.length : Int) i = some (Go.bits .xor .u32 (crcSt s (L.drop i.toNat).flatten) 4294967295) := by
  induction d with
  | zero =>
    intro s i h0 hd
    refine ⟨1, fun k hk => ?_⟩
    obtain ⟨k, rfl⟩ : ∃ m, k = m + 1 := ⟨k - 1, by omega⟩
    have : L.drop i.toNat = [] := List.drop_eq_nil_of_le (by omega)
    rw [this]
    simp only [crc_Join.l0]
    rw [if_neg (by omega)]
    rfl
  | succ d ih =>
    intro s i h0 hd
    have hi : i.toNat < L.length := by omega
    have hw : wrap64 (i + 1) = i + 1 := by unfold wrap64; omega
    have hrd : rd_L3 L i = L[i.toNat] := by simp [rd_L3, List.getD_eq_getElem?_getD, List.getElem?_eq_getElem hi]
    obtain ⟨k1, hk1⟩ := ih (crcSt s (rd_L3 L i)) (i + 1) (by omega) (by omega)
    refine ⟨k1 + 11 + (rd_L3 L i).length, fun k hk => ?_⟩
    obtain ⟨m, hm⟩ : ∃ m, k = (m + 10 + (rd_L3 L i).length) + 1 := ⟨k - 11 - (rd_L3 L i).length, by omega⟩
    obtain ⟨n, hn⟩ : ∃ n, n = m + 10 + (rd_L3 L i).length := ⟨_, rfl⟩
    rw [show k = n + 1 by omega]
    simp only [crc_Join.l0]
    rw [if_pos (by omega), if_pos (by omega), if_pos (by omega), hn, join_l1 _ _ _ _ (by rw [hrd]; exact hl _ (List.getElem_mem hi)) _ _ _ _ (by omega) (by omega)]
    rw [hw, show (0 : Int).toNat = 0 from rfl, List.drop_zero, hk1 _ (by omega)]
    rw [List.drop_eq_getElem_cons hi, show (i + 1).toNat = i.toNat + 1 by omega, List.flatten_cons]
    simp only [crcSt, List.foldl_append, hrd]
theorem join_f (L : List (List Int)) (hL : L.length ≤ 9223372036854775807) (hl : ∀ x ∈ L, x.length ≤ 9223372036854775807) : ∃ k, crc_Join.f k L = some (crcOf L.flatten) := by
  obtain ⟨k0, h⟩ := join_l0 L hL hl L.length 4294967295 0 (by omega) (by omega)
  exact ⟨k0, h k0 (Nat.le_refl _)⟩

theorem C_len {w : World} {A : Option Addr} {n : Nat} {xs : List Int} (h : (Kd.int .u8).C w A n xs) : xs.length = n ∧ n ≤ 9223372036854775807 := ⟨h.1, h.2.1⟩
theorem CL_lens {w : World} {A : Option Addr} {n : Nat} {L : List (List Int)} (h : (Kd.slice 5 (Kd.int .u8)).C w A n L) : L.length ≤ 9223372036854775807 ∧ ∀ x ∈ L, x.length ≤ 9223372036854775807 := by
  refine ⟨by have := h.1; have := h.2.1; omega, fun x hx => ?_⟩
  obtain ⟨i, hi, rfl⟩ := List.mem_iff_getElem.1 hx
  obtain ⟨ad, e, hc⟩ := h.2.2 (by have := h.1; omega)
  obtain ⟨c, _, hr, _⟩ := hc i _ (List.getElem?_eq_getElem hi)
  obtain ⟨A', c', _, _, hC⟩ := hr
  exact hC.2.1
theorem Join_calls (A : Option Addr) (c : Nat) (L : List (List Int)) (w : World) (h : (Kd.slice 5 (Kd.int .u8)).C w A L.length L) (hc : L.length ≤ c) :
    Calls Tryz.prog 81 #[.slice A L.length c] w fun e w' => e = .returned (.int .u32 (crcOf L.flatten)) ∧ Drawn0 w w' := by
  obtain ⟨k, hk⟩ := join_f L (CL_lens h).1 (CL_lens h).2
  exact crc_Join.calls k A c L _ w h hc hk
end Go.Proofs.YtmapdfommjcebaaGreat.Own
namespace Go.Proofs.YtmapdfommjcebaaGreat.Own
open Go.RowKit Go.Proofs.YtmapdfommjcebaaGreatW.PrintWords Go.Proofs.YtmapdfommjcebaaGreatW.PrintLast Go.Proofs.YtmapdfommjcebaaGreatW.PrintMore

theorem add_off (g off j : Nat) : (⟨g, off, none⟩ : Addr).add j = ⟨g, off + j, none⟩ := by
  unfold Addr.add; split <;> simp_all
theorem C_blk {α : Type} {d : Kd α} (h1 : d.sz = 1) {w : World} {g off : Nat} {cs : Array Value} {t : TypeId} {fr : Nat × Nat} (hb : w.heap[g]? = some (.cells cs t fr)) {xs : List α} (hn : xs.length ≤ 9223372036854775807)
    (h : ∀ j x, xs[j]? = some x → ∃ u, cs[off + j]? = some u ∧ d.K w x [u]) : d.C w (some ⟨g, off, none⟩) xs.length xs := by
  refine ⟨rfl, hn, fun _ => ⟨_, rfl, fun j x hj => ?_⟩⟩
  obtain ⟨u, hu, hK⟩ := h j x hj
  refine ⟨[u], by simp [h1], hK, fun i v hv => ?_⟩
  have hi : i = 0 := by
    have := (List.getElem?_eq_some_iff.1 hv).1
    simpa using this
  subst hi
  have hvu : u = v := by simpa using hv
  subst hvu
  rw [h1, Nat.mul_one, Nat.add_zero, add_off, cell_of_row w g (off + j) cs t fr hb]
  exact hu
/-- One slice, in a new block of one cell. -/
theorem C_one {α : Type} {d : Kd α} {w : World} {x : α} {u : Value} {t : TypeId} (h1 : d.sz = 1) (hK : d.K w x [u]) : d.C (w.alloc (.cells #[u] t)) (some ⟨w.heap.size, 0, none⟩) [x].length [x] := by
  refine C_blk h1 (heap_alloc_new w _) (by simp) fun j y hj => ?_
  have hj0 : j = 0 := by
    have := (List.getElem?_eq_some_iff.1 hj).1
    simpa using this
  subst hj0
  have : x = y := by simpa using hj
  subst this
  exact ⟨u, rfl, d.K_below (below_alloc (Below.refl _ _) _) hK⟩
theorem K_bytes {w : World} {A : Option Addr} {c : Nat} {l : List Int} (h : (Kd.int .u8).C w A l.length l) (hc : l.length ≤ c) : (Kd.slice 5 (Kd.int .u8)).K w l [.slice A l.length c] := ⟨A, c, rfl, hc, h⟩

set_option maxHeartbeats 400000 in
set_option maxRecDepth 100000 in
theorem Of_calls (A : Option Addr) (c : Nat) (l : List Int) (w : World) (h : (Kd.int .u8).C w A l.length l) (hc : l.length ≤ c) :
    Calls Tryz.prog 54 #[.slice A l.length c] w fun e w' => e = .returned (.int .u32 (crcOf l)) ∧ Below w.heap.size w w' := by
  have H := Aside0.mk h
  clear h
  go_enter Tryz.func54, Tryz.ntmps54
  go_wp2_with fail
  refine (Join_calls (some ⟨w.heap.size, 0, none⟩) 1 [l] _ (C_one rfl (K_bytes H.out hc)) (by simp)).mono ?_
  rintro e w' ⟨rfl, hd⟩
  go_wp2_with fail
  go_ret
  refine ⟨?_, ?_⟩
  · simp
  · exact below_step (below_alloc (Below.refl _ _) _) hd.below

/-! Bytes of the call's own, and append onto them. -/
def OwnB (w : World) (base : Nat) (v : Value) (xs : List Int) : Prop := w.ownsRow base 5 1 v xs.length (nums .u8 xs)
theorem OwnB.below {w w1 : World} {base : Nat} {v : Value} {xs : List Int} (h : OwnB w base v xs) (hb : Below w.heap.size w w1) : OwnB w1 base v xs := pw_own_below h hb
theorem OwnB.slice {w : World} {base : Nat} {v : Value} {xs : List Int} (h : OwnB w base v xs) : ∃ A c, v = .slice A xs.length c ∧ xs.length ≤ c ∧ (Kd.int .u8).C w A xs.length xs := by
  obtain ⟨A, c, rfl, hr⟩ := own_reads h
  exact ⟨A, c, rfl, own_cap h, Kd.C_of_reads (d := (0 : Int)) (h1 := fun _ => rfl) hr⟩
theorem reads_of_CB {w : World} {A : Option Addr} {n : Nat} {xs : List Int} (h : (Kd.int .u8).C w A n xs) : ReadsInt w .u8 A n xs := Kd.reads_of_C (d := (0 : Int)) h
theorem info5 : (Tryz.prog.info? 5).map (fun i => (i.zero, i.size, i.bytes)) = some (some (.int .u8 0), 1, 1) := by kernel_rfl
section
variable {ops : Array Oper} {rest : List Oper} {o : Oper} {a : Act} {Q : Exit → Act → World → Prop}
theorem app_bytes {w0 W : World} (base : Nat) (hgd : o.guard = none) (s x : Operand) (ho : o.op = .call { callee := .builtin .append, args := #[s, x], argTypes := #[29, 29] })
    (v : Value) (xs ys : List Int) (A : Option Addr) (m c : Nat) (hs : a.eval s = v) (hx : a.eval x = .slice A m c) (hm : m = ys.length)
    (HO : OwnB W base v xs) (HR : (Kd.int .u8).C W A ys.length ys) (HB : Below base w0 W) (hbase : base ≤ W.heap.size) (hl : xs.length + ys.length ≤ 140737488355328)
    (h : ∀ v1 w1, OwnB w1 base v1 (xs ++ ys) → Below base w0 w1 → W.grownBy w1 v.ownBlock → wpList Tryz.prog ops Q rest (a.put o.dst v1) w1) : wpList Tryz.prog ops Q (o :: rest) a W := by
  subst hm
  exact print_append_row base hgd s x 29 5 .u8 1 ho Tryz.underlying29 info5 (by omega) v xs ys A _ c hs hx HO (reads_of_CB HR) HB hbase (by omega) (fun v1 w1 ho hb hg _ => h v1 w1 ho hb hg)
end
theorem own_empty (W : World) (base : Nat) (hb : base ≤ W.heap.size) : OwnB (W.alloc (.cells #[] 5)) base (.slice (some ⟨W.heap.size, 0, none⟩) 0 0) [] :=
  ⟨rfl, .inr ⟨_, 0, #[], rfl, hb, heap_alloc_new _ _, Nat.le_refl _, by simp [maxLen], rfl, rfl⟩⟩
end Go.Proofs.YtmapdfommjcebaaGreat.Own
namespace Go.Proofs.YtmapdfommjcebaaGreat.Own
open Go.RowKit Go.Proofs.YtmapdfommjcebaaGreatW.PrintWords Go.Proofs.YtmapdfommjcebaaGreatW.PrintLast Go.Proofs.YtmapdfommjcebaaGreatW.PrintMore
theorem crc_none : crcOf [] = 0 := by decide +kernel
theorem C_lit {w : World} {g : Nat} {t : TypeId} {fr : Nat × Nat} {cs : Array Value} (xs : List Int) (hb : w.heap[g]? = some (.cells cs t fr)) (hc : cs = (nums .u8 xs).toArray) (hn : xs.length ≤ 9223372036854775807) :
    (Kd.int .u8).C w (some ⟨g, 0, none⟩) xs.length xs := by
  subst hc
  refine C_blk rfl hb hn fun j x hj => ⟨.int .u8 x, ?_, rfl⟩
  simp [nums, hj]
theorem C_two {α : Type} {d : Kd α} {w : World} {x y : α} {u v : Value} {t : TypeId} (h1 : d.sz = 1) (hK : d.K w x [u]) (hL : d.K w y [v]) : d.C (w.alloc (.cells #[u, v] t)) (some ⟨w.heap.size, 0, none⟩) [x, y].length [x, y] := by
  refine C_blk h1 (heap_alloc_new w _) (by simp) fun j z hj => ?_
  have hj0 : j = 0 ∨ j = 1 := by
    have := (List.getElem?_eq_some_iff.1 hj).1
    simp at this
    omega
  rcases hj0 with rfl | rfl
  · have : x = z := by simpa using hj
    subst this
    exact ⟨u, rfl, d.K_below (below_alloc (Below.refl _ _) _) hK⟩
  · have : y = z := by simpa using hj
    subst this
    exact ⟨v, rfl, d.K_below (below_alloc (Below.refl _ _) _) hL⟩
theorem C_cut {w : World} {g off : Nat} {xs : List Int} (m : Nat) (h : (Kd.int .u8).C w (some ⟨g, off, none⟩) xs.length xs) (hm : m < xs.length) : (Kd.int .u8).C w (some ⟨g, off + m, none⟩) (xs.drop m).length (xs.drop m) := by
  have h1 := Kd.C_drop (m := m) (c := xs.length) h (by omega) (by omega)
  rw [if_neg (by omega)] at h1
  have e : (some (⟨g, off, none⟩ : Addr)).map (·.add (m * (Kd.int .u8).sz)) = some ⟨g, off + m, none⟩ := by
    rw [Option.map_some, show (Kd.int .u8).sz = 1 from rfl, Nat.mul_one, add_off]
  rw [e] at h1
  exact h1
theorem C_bytes_nil (w : World) : (Kd.int .u8).C w none ([] : List Int).length [] := Kd.C_nil _ w
end Go.Proofs.YtmapdfommjcebaaGreat.Own
namespace Go.Proofs.YtmapdfommjcebaaGreat.Own
open Go.RowKit Go.Proofs.YtmapdfommjcebaaGreatW.PrintWords Go.Proofs.YtmapdfommjcebaaGreatW.PrintLast Go.Proofs.YtmapdfommjcebaaGreatW.PrintMore

def polyV : BitVec 32 := 0x04C11DB7#32
def zV (s : BitVec 32) : BitVec 32 := (s <<< 1) ^^^ (if s.msb then polyV else 0#32)
def z8 (s : BitVec 32) : BitVec 32 := zV (zV (zV (zV (zV (zV (zV (zV s)))))))
def crcV (s : BitVec 32) (l : List Int) : BitVec 32 := l.foldl (fun s c => z8 (s ^^^ (BitVec.ofInt 32 c <<< 24))) s

theorem wrap_u32_nat (n : Nat) (h : n < 2 ^ 32) : IntKind.u32.wrap (n : Int) = n := by
  rw [IntKind.wrap_u32]; omega
theorem xor_v (x y : Int) : Go.bits .xor .u32 x y = ((BitVec.ofInt 32 x ^^^ BitVec.ofInt 32 y).toNat : Int) := by
  show IntKind.u32.wrap _ = _
  exact wrap_u32_nat _ (BitVec.isLt _)
theorem ofInt_toNat (s : BitVec 32) : BitVec.ofInt 32 (s.toNat : Int) = s := by
  rw [BitVec.ofInt_natCast, BitVec.ofNat_toNat, BitVec.setWidth_eq]
theorem step_v (s : BitVec 32) : crcStep (s.toNat : Int) = ((zV s).toNat : Int) := by
  have hs := s.isLt
  have hm : s.msb = decide (2147483648 ≤ s.toNat) := by rw [BitVec.msb_eq_decide]
  have h2 : ∀ x y : Int, x = s.toNat → y = (s <<< 1).toNat → x * 2 % 4294967296 = y := by
    intro x y hx hy
    subst hx hy
    rw [BitVec.toNat_shiftLeft, Nat.shiftLeft_eq]
    omega
  unfold crcStep zV
  by_cases h : 2147483648 ≤ s.toNat
  · rw [if_pos (by omega), h2 _ _ rfl rfl, xor_v, ofInt_toNat, hm, decide_eq_true h]
    rfl
  · rw [if_neg (by omega), h2 _ _ rfl rfl, hm, decide_eq_false h]
    simp
theorem byte_v (s : BitVec 32) (c : Int) : crcByte (s.toNat : Int) c = ((z8 (s ^^^ (BitVec.ofInt 32 c <<< 24))).toNat : Int) := by
  have hc : BitVec.ofInt 32 ((c % 4294967296 * 16777216) % 4294967296) = BitVec.ofInt 32 c <<< 24 := by
    apply BitVec.eq_of_toNat_eq
    rw [BitVec.toNat_ofInt, BitVec.toNat_shiftLeft, BitVec.toNat_ofInt, Nat.shiftLeft_eq]
    have : (2 : Int) ^ 32 = 4294967296 := by decide
    simp only [Nat.reducePow]
    omega
  unfold crcByte z8
  rw [xor_v, ofInt_toNat, hc]
  simp only [step_v]
theorem st_v (l : List Int) : ∀ s : BitVec 32, crcSt (s.toNat : Int) l = ((crcV s l).toNat : Int) := by
  induction l with
  | nil => intro s; rfl
  | cons c l ih =>
    intro s
    simp only [crcSt, crcV, List.foldl_cons, byte_v] at ih ⊢
    exact ih _
theorem of_v (l : List Int) : crcOf l = ((crcV (BitVec.allOnes 32) l ^^^ BitVec.allOnes 32).toNat : Int) := by
  unfold crcOf
  rw [xor_v, show (4294967295 : Int) = ((BitVec.allOnes 32).toNat : Int) by decide, st_v, ofInt_toNat, ofInt_toNat]
theorem of_range (l : List Int) : 0 ≤ crcOf l ∧ crcOf l < 4294967296 := by
  rw [of_v]
  have := (crcV (BitVec.allOnes 32) l ^^^ BitVec.allOnes 32).isLt
  omega

/-! The reference: the same sum, reckoned with 64 bits. -/
theorem wrap_u64 (n : Int) : IntKind.u64.wrap n = n % 18446744073709551616 := by simp [IntKind.wrap, IntKind.bits, IntKind.signed]
theorem xor_u64 (x y : Nat) (hx : x < 2 ^ 32) (hy : y < 2 ^ 32) : Go.bits .xor .u64 (x : Int) (y : Int) = ((BitVec.ofNat 32 x ^^^ BitVec.ofNat 32 y).toNat : Int) := by
  show IntKind.u64.wrap _ = _
  rw [wrap_u64, BitVec.ofInt_natCast, BitVec.ofInt_natCast]
  have h1 : (BitVec.ofNat IntKind.u64.bits x ^^^ BitVec.ofNat IntKind.u64.bits y).toNat = x ^^^ y := by
    rw [BitVec.toNat_xor, BitVec.toNat_ofNat, BitVec.toNat_ofNat, Nat.mod_eq_of_lt, Nat.mod_eq_of_lt]
    · exact Nat.lt_of_lt_of_le hy (by decide)
    · exact Nat.lt_of_lt_of_le hx (by decide)
  have h2 : (BitVec.ofNat 32 x ^^^ BitVec.ofNat 32 y).toNat = x ^^^ y := by
    rw [BitVec.toNat_xor, BitVec.toNat_ofNat, BitVec.toNat_ofNat, Nat.mod_eq_of_lt hx, Nat.mod_eq_of_lt hy]
  have h3 : x ^^^ y < 2 ^ 32 := Nat.xor_lt_two_pow hx hy
  simp only [h1, h2]
  omega
end Go.Proofs.YtmapdfommjcebaaGreat.Own
