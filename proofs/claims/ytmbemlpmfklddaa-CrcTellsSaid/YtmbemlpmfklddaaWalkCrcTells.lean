/- The walk of CrcTells: whatever the bytes, the call comes to true. -/
import Derived.Test.YtmbemlpmfklddaaCrcV
import Derived.Test.YtmbemlpmfklddaaCrcAlive
import Derived.Deep.RegionWith
import Derived.Deep.DeepMust
namespace Go.Proofs.Ytmbemlpmfklddaa.Own
open Go.RowKit Go.Proofs.YtmbemlpmfklddaaW.PrintWords Go.Proofs.YtmbemlpmfklddaaW.PrintLast Go.Proofs.YtmbemlpmfklddaaW.PrintMore
theorem C_three {α : Type} {d : Kd α} {w : World} {x y z : α} {u v p : Value} {t : TypeId} (h1 : d.sz = 1) (hK : d.K w x [u]) (hL : d.K w y [v]) (hM : d.K w z [p]) : d.C (w.alloc (.cells #[u, v, p] t)) (some ⟨w.heap.size, 0, none⟩) [x, y, z].length [x, y, z] := by
  refine C_blk h1 (heap_alloc_new w _) (by simp) fun j q hj => ?_
  have hj0 : j = 0 ∨ j = 1 ∨ j = 2 := by
    have := (List.getElem?_eq_some_iff.1 hj).1
    simp at this
    omega
  rcases hj0 with rfl | rfl | rfl
  · have : x = q := by simpa using hj
    subst this
    exact ⟨u, rfl, d.K_below (below_alloc (Below.refl _ _) _) hK⟩
  · have : y = q := by simpa using hj
    subst this
    exact ⟨v, rfl, d.K_below (below_alloc (Below.refl _ _) _) hL⟩
  · have : z = q := by simpa using hj
    subst this
    exact ⟨p, rfl, d.K_below (below_alloc (Below.refl _ _) _) hM⟩
set_option maxHeartbeats 400000 in
set_option maxRecDepth 100000 in
theorem CrcTells_calls (A0 A1 A2 : Option Addr) (c0 c1 c2 : Nat) (l0 l1 l2 : List Int) (w : World)
    (h0 : (Kd.int .u8).C w A0 l0.length l0) (h1 : (Kd.int .u8).C w A1 l1.length l1) (h2 : (Kd.int .u8).C w A2 l2.length l2) (k0 : l0.length ≤ c0) (k1 : l1.length ≤ c1) (k2 : l2.length ≤ c2)
    (b0 : ∀ x ∈ l0, 0 ≤ x ∧ x < 256) (b1 : ∀ x ∈ l1, 0 ≤ x ∧ x < 256) (b2 : ∀ x ∈ l2, 0 ≤ x ∧ x < 256) :
    Calls Try.prog 3 #[.slice A0 l0.length c0, .slice A1 l1.length c1, .slice A2 l2.length c2] w fun e w' => e = .returned (.bool true) ∧ Below w.heap.size w w' := by
  have H0 := Aside0.mk h0
  have H1 := Aside0.mk h1
  have H2 := Aside0.mk h2
  have B0 := Aside0.mk b0
  have B1 := Aside0.mk b1
  have B2 := Aside0.mk b2
  have HB := Aside0.mk (Below.refl w.heap.size w)
  have m0 := h0.2.1
  have m1 := h1.2.1
  have m2 := h2.2.1
  clear h0 h1 h2 b0 b1 b2
  by_cases hg : l0.length ≤ 3000 ∧ l1.length ≤ 3000 ∧ l2.length ≤ 3000
  · obtain ⟨g0, g1, g2⟩ := hg
    have t0 : True := trivial
    have t2 : True := trivial
    have t1 : True := trivial
    go_enter Try.func3, Try.ntmps3
    go_wp2_with (first
      | (at_builtin; have _t := t0; refine app_bytes w.heap.size rfl (.tmp 22) (.tmp 23) rfl _ [] l0 A0 l0.length c0 rfl rfl rfl (own_empty _ _ (Nat.le_refl _)) (Kd.C_below H0.out (below_alloc (Below.refl _ _) _)) (below_alloc HB.out _) (below_alloc HB.out _).size (by simp; omega) ?_; intro v1 w1 O1 B1' G1; clear t0 G1 HB; have HO := Aside0.mk O1; have HB := Aside0.mk B1'; clear O1 B1')
      | (at_builtin; have _t := t1; refine app_bytes w.heap.size rfl (.tmp 24) (.tmp 25) rfl v1 ([] ++ l0) l1 A1 l1.length c1 rfl rfl rfl HO.out (Kd.C_below H1.out HB.out) HB.out HB.out.size (by simp; omega) ?_; intro v2 w2 O1 B1' G1; clear t1 G1 HB HO; have HO := Aside0.mk O1; have HB := Aside0.mk B1'; clear O1 B1')
      | (at_builtin; refine app_bytes w.heap.size rfl (.tmp 26) (.tmp 27) rfl v2 (([] ++ l0) ++ l1) l2 A2 l2.length c2 rfl rfl rfl HO.out (Kd.C_below H2.out HB.out) HB.out HB.out.size (by simp; omega) ?_; intro v3 w3 O1 B1' G1; clear G1 HB HO; have HO := Aside0.mk O1; have HB := Aside0.mk B1'; clear O1 B1'))
    rw [show (([] ++ l0) ++ l1) ++ l2 = l0 ++ l1 ++ l2 from rfl] at HO
    obtain ⟨la, hla⟩ : ∃ la, la = l0 ++ l1 ++ l2 := ⟨_, rfl⟩
    rw [← hla] at HO
    have BA := Aside0.mk (show ∀ x ∈ la, 0 ≤ x ∧ x < 256 from by
      rw [hla]
      intro x hx
      rcases List.mem_append.1 hx with hx | hx
      · rcases List.mem_append.1 hx with hx | hx
        · exact B0.out x hx
        · exact B1.out x hx
      · exact B2.out x hx)
    have HLA := Aside0.mk hla
    clear hla
    obtain ⟨A3, c3, rfl, k3, H3⟩ := HO.out.slice
    have H4 := Aside0.mk H3
    clear H3
    go_wp2_with (first
      | (go_at_call 16; refine (alive01 _).mono ?_; rintro e w4 ⟨rfl, hb⟩; have HO2 := Aside0.mk (HO.out.below hb); have HB2 := Aside0.mk (below_step HB.out hb); have H5 := Aside0.mk (Kd.C_below H4.out hb); clear HO HB H4 hb; have HO := HO2; have HB := HB2; have H4 := H5; clear HO2 HB2 H5)
      | (go_at_call 17; refine (Of_calls A0 c0 l0 _ (by exact Kd.C_below H0.out HB.out) k0).mono ?_; rintro e w4 ⟨rfl, hb⟩; have HO2 := Aside0.mk (HO.out.below hb); have HB2 := Aside0.mk (below_step HB.out hb); have H5 := Aside0.mk (Kd.C_below H4.out hb); clear HO HB H4 hb; have HO := HO2; have HB := HB2; have H4 := H5; clear HO2 HB2 H5)
      | (go_at_call_of 18 A3; refine (Ref_calls A3 c3 la _ (by exact H4.out) k3 BA.out).mono ?_; rintro e w4 ⟨rfl, hd⟩; have hb := hd.below; clear hd; have HO2 := Aside0.mk (HO.out.below hb); have HB2 := Aside0.mk (below_step HB.out hb); have H5 := Aside0.mk (Kd.C_below H4.out hb); clear HO HB H4 hb; have HO := HO2; have HB := HB2; have H4 := H5; clear HO2 HB2 H5)
      | (go_at_call 18; refine (Ref_calls A0 c0 l0 _ (by exact Kd.C_below H0.out HB.out) k0 B0.out).mono ?_; rintro e w4 ⟨rfl, hd⟩; have hb := hd.below; clear hd; have HO2 := Aside0.mk (HO.out.below hb); have HB2 := Aside0.mk (below_step HB.out hb); have H5 := Aside0.mk (Kd.C_below H4.out hb); clear HO HB H4 hb; have HO := HO2; have HB := HB2; have H4 := H5; clear HO2 HB2 H5)
      | (go_at_call 19; have _t := t2; go_must (refine (Join_calls _ _ [l0, l1, l2] _ (by exact C_three rfl (K_bytes (Kd.C_below H0.out HB.out) k0) (K_bytes (Kd.C_below H1.out HB.out) k1) (K_bytes (Kd.C_below H2.out HB.out) k2)) (by simp)).mono ?_); rw [show [l0, l1, l2].flatten = la from by rw [HLA.out]; simp]; rintro e w4 ⟨rfl, hd⟩; have hb := below_step (below_alloc (Below.refl _ _) _) hd.below; clear hd t2; have HO2 := Aside0.mk (HO.out.below hb); have HB2 := Aside0.mk (below_step HB.out hb); have H5 := Aside0.mk (Kd.C_below H4.out hb); clear HO HB H4 hb; have HO := HO2; have HB := HB2; have H4 := H5; clear HO2 HB2 H5)
      | (go_at_call 19; refine (Join_calls _ _ [l0] _ (by exact C_one rfl (K_bytes (Kd.C_below H0.out HB.out) k0)) (by simp)).mono ?_; rintro e w4 ⟨rfl, hd⟩; have hb := below_step (below_alloc (Below.refl _ _) _) hd.below; clear hd; have HO2 := Aside0.mk (HO.out.below hb); have HB2 := Aside0.mk (below_step HB.out hb); have H5 := Aside0.mk (Kd.C_below H4.out hb); clear HO HB H4 hb; have HO := HO2; have HB := HB2; have H4 := H5; clear HO2 HB2 H5))
    go_ret
    exact ⟨rfl, HB.out⟩
  · have hq : 3000 < (l0.length : Int) ∨ 3000 < (l1.length : Int) ∨ 3000 < (l2.length : Int) := by omega
    clear hg
    go_enter Try.func3, Try.ntmps3
    go_wp2_with (go_at_call 16; refine (alive01 _).mono ?_; rintro e w4 ⟨rfl, hb⟩; clear hq)
    all_goals first | (exfalso; omega) | (go_ret; exact ⟨rfl, hb⟩)
end Go.Proofs.Ytmbemlpmfklddaa.Own
