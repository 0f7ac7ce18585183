/- The check sum as a plain function, and that crc.Join tells it: for all lists of bytes. -/
import Derived.Test.YtmbemlpmfklddaaPWalLivesx1
namespace Go.Proofs.Ytmbemlpmfklddaa.Own
open Go.RowKit Go.Proofs.YtmbemlpmfklddaaW.PrintWords Go.Proofs.YtmbemlpmfklddaaW.PrintLast Go.Proofs.YtmbemlpmfklddaaW.PrintMore
open PWalLives

def crcStep (x : Int) : Int := if x / 2147483648 = 1 then Go.bits .xor .u32 ((x * 2) % 4294967296) 79764919 else (x * 2) % 4294967296
def crcByte (s c : Int) : Int := crcStep (crcStep (crcStep (crcStep (crcStep (crcStep (crcStep (crcStep (Go.bits .xor .u32 s ((c % 4294967296 * 16777216) % 4294967296)))))))))
def crcSt (s : Int) (l : List Int) : Int := l.foldl crcByte s
def crcOf (l : List Int) : Int := Go.bits .xor .u32 (crcSt 4294967295 l) 4294967295

theorem on_l0_step (k : Nat) (x i : Int) (h0 : 0 ≤ i) (h : i < 8) : crc_on.l0 (k + 1) x i = crc_on.l0 k (crcStep x) (i + 1) := by
  have hw : wrap64 (i + 1) = i + 1 := by unfold wrap64; omega
  simp only [crc_on.l0, crcStep, hw]
  rw [if_pos h]
  split <;> rfl
theorem on_f (k : Nat) (s c : Int) : crc_on.f (k + 9) s c = some (crcByte s c) := by
  unfold crc_on.f
  rw [on_l0_step _ _ _ (by omega) (by omega), on_l0_step _ _ _ (by omega) (by omega), on_l0_step _ _ _ (by omega) (by omega), on_l0_step _ _ _ (by omega) (by omega), on_l0_step _ _ _ (by omega) (by omega), on_l0_step _ _ _ (by omega) (by omega), on_l0_step _ _ _ (by omega) (by omega), on_l0_step _ _ _ (by omega) (by omega)]
  simp only [crc_on.l0]
  rw [if_neg (by omega)]
  rfl
theorem join_l1 (x8 : List (List Int)) (x9 x10 : Int) (x14 : List Int) (hl : x14.length ≤ 9223372036854775807) (d : Nat) : ∀ (k : Nat) (s i : Int), 0 ≤ i → i + d = x14.length →
    crc_Join.l1 (k + 10 + d) s x8 x9 x10 x14 (x14.length : Int) i = crc_Join.l0 (k + 9) (crcSt s (x14.drop i.toNat)) x8 x9 (wrap64 (x10 + 1)) := by
  induction d with
  | zero =>
    intro k s i h0 hd
    have : x14.drop i.toNat = [] := List.drop_eq_nil_of_le (by omega)
    rw [this]
    simp only [crc_Join.l1]
    rw [if_neg (by omega)]
    rfl
  | succ d ih =>
    intro k s i h0 hd
    have hw : wrap64 (i + 1) = i + 1 := by unfold wrap64; omega
    have hi : i.toNat < x14.length := by omega
    obtain ⟨n, hn⟩ : ∃ n, n = k + 10 + d := ⟨_, rfl⟩
    rw [show k + 10 + (d + 1) = n + 1 by omega]
    simp only [crc_Join.l1]
    have hon := on_f (k + 1 + d) s (rd x14 i)
    rw [show k + 1 + d + 9 = n by omega] at hon
    rw [if_pos (by omega), if_pos (by omega), if_pos (by omega), hon, hw]
    simp only [Option.bind_some]
    rw [hn, ih k _ (i + 1) (by omega) (by omega)]
    congr 1
    rw [List.drop_eq_getElem_cons hi, show (i + 1).toNat = i.toNat + 1 by omega]
    simp only [crcSt, List.foldl_cons]
    congr 2
    simp [rd, List.getD_eq_getElem?_getD, List.getElem?_eq_getElem hi]
theorem join_l0 (L : List (List Int)) (hL : L.length ≤ 9223372036854775807) (hl : ∀ x ∈ L, x.length ≤ 9223372036854775807) (d : Nat) : ∀ (s i : Int), 0 ≤ i → i + d = L.length →
    ∃ k0, ∀ k, k0 ≤ k → crc_Join.l0 k s L (L.length : Int) i = some (Go.bits .xor .u32 (crcSt s (L.drop i.toNat).flatten) 4294967295) := by
  induction d with
  | zero =>
    intro s i h0 hd
    refine ⟨1, fun k hk => ?_⟩
    obtain ⟨k, rfl⟩ : ∃ m, k = m + 1 := ⟨k - 1, by omega⟩
    have : L.drop i.toNat = [] := List.drop_eq_nil_of_le (by omega)
    rw [this]
    simp only [crc_Join.l0]
    rw [if_neg (by omega)]
    rfl
  | succ d ih =>
    intro s i h0 hd
    have hi : i.toNat < L.length := by omega
    have hw : wrap64 (i + 1) = i + 1 := by unfold wrap64; omega
    have hrd : rd_L1 L i = L[i.toNat] := by simp [rd_L1, List.getD_eq_getElem?_getD, List.getElem?_eq_getElem hi]
    obtain ⟨k1, hk1⟩ := ih (crcSt s (rd_L1 L i)) (i + 1) (by omega) (by omega)
    refine ⟨k1 + 11 + (rd_L1 L i).length, fun k hk => ?_⟩
    obtain ⟨m, hm⟩ : ∃ m, k = (m + 10 + (rd_L1 L i).length) + 1 := ⟨k - 11 - (rd_L1 L i).length, by omega⟩
    obtain ⟨n, hn⟩ : ∃ n, n = m + 10 + (rd_L1 L i).length := ⟨_, rfl⟩
    rw [show k = n + 1 by omega]
    simp only [crc_Join.l0]
    rw [if_pos (by omega), if_pos (by omega), if_pos (by omega), hn, join_l1 _ _ _ _ (by rw [hrd]; exact hl _ (List.getElem_mem hi)) _ _ _ _ (by omega) (by omega)]
    rw [hw, show (0 : Int).toNat = 0 from rfl, List.drop_zero, hk1 _ (by omega)]
    rw [List.drop_eq_getElem_cons hi, show (i + 1).toNat = i.toNat + 1 by omega, List.flatten_cons]
    simp only [crcSt, List.foldl_append, hrd]
theorem join_f (L : List (List Int)) (hL : L.length ≤ 9223372036854775807) (hl : ∀ x ∈ L, x.length ≤ 9223372036854775807) : ∃ k, crc_Join.f k L = some (crcOf L.flatten) := by
  obtain ⟨k0, h⟩ := join_l0 L hL hl L.length 4294967295 0 (by omega) (by omega)
  exact ⟨k0, h k0 (Nat.le_refl _)⟩

theorem C_len {w : World} {A : Option Addr} {n : Nat} {xs : List Int} (h : (Kd.int .u8).C w A n xs) : xs.length = n ∧ n ≤ 9223372036854775807 := ⟨h.1, h.2.1⟩
theorem CL_lens {w : World} {A : Option Addr} {n : Nat} {L : List (List Int)} (h : (Kd.slice 5 (Kd.int .u8)).C w A n L) : L.length ≤ 9223372036854775807 ∧ ∀ x ∈ L, x.length ≤ 9223372036854775807 := by
  refine ⟨by have := h.1; have := h.2.1; omega, fun x hx => ?_⟩
  obtain ⟨i, hi, rfl⟩ := List.mem_iff_getElem.1 hx
  obtain ⟨ad, e, hc⟩ := h.2.2 (by have := h.1; omega)
  obtain ⟨c, _, hr, _⟩ := hc i _ (List.getElem?_eq_getElem hi)
  obtain ⟨A', c', _, _, hC⟩ := hr
  exact hC.2.1
theorem Join_calls (A : Option Addr) (c : Nat) (L : List (List Int)) (w : World) (h : (Kd.slice 5 (Kd.int .u8)).C w A L.length L) (hc : L.length ≤ c) :
    Calls Try.prog 19 #[.slice A L.length c] w fun e w' => e = .returned (.int .u32 (crcOf L.flatten)) ∧ Drawn0 w w' := by
  obtain ⟨k, hk⟩ := join_f L (CL_lens h).1 (CL_lens h).2
  exact crc_Join.calls k A c L _ w h hc hk
end Go.Proofs.Ytmbemlpmfklddaa.Own
