/- A log and its reference's, side by side in memory; what is only read of both. -/
import Derived.Test.YtmbemlpmfklddaaRlD
import Derived.Test.YtmbemlpmfklddaaLiv
namespace Go.Proofs.Ytmbemlpmfklddaa.Own
open Go.RowKit Go.Proofs.YtmbemlpmfklddaaW.PrintWords Go.Proofs.YtmbemlpmfklddaaW.PrintLast Go.Proofs.YtmbemlpmfklddaaW.PrintMore
/-- A log and its reference's in memory, side by side. -/
abbrev LivW (w W : World) (gl g gr gx : Nat) (x : Lg) (d : Dm) (pb : List Int) (xr : Lg) (sp : ByteArray) (dr : Dm) (va vt : Value) (Ps : List Thing) : Prop :=
  WalS w W gl g x d pb (CellsT gr (rlC gx xr sp) 101 :: CellsT gx (refC dr va vt) 125 :: RawT 1 3 va (atsR dr.q) :: RawT 1 9 vt (txtR dr.q) :: Ps)
section
variable {w W : World} {Ps : List Thing} {A B C D E F G T : Thing}
theorem Here.pick34 (h : Here w W (A :: B :: C :: D :: E :: F :: G :: Ps)) : Here w W (D :: E :: F :: G :: A :: B :: C :: Ps) :=
  h.perm ((List.perm_append_comm (l₁ := [A, B, C]) (l₂ := [D, E, F, G])).append_right Ps)
theorem Here.pick43 (h : Here w W (D :: E :: F :: G :: A :: B :: C :: Ps)) : Here w W (A :: B :: C :: D :: E :: F :: G :: Ps) :=
  h.perm ((List.perm_append_comm (l₁ := [D, E, F, G]) (l₂ := [A, B, C])).append_right Ps)
theorem Here.pick53 (h : Here w W (D :: E :: F :: G :: T :: A :: B :: C :: Ps)) : Here w W (A :: B :: C :: D :: E :: F :: G :: T :: Ps) :=
  h.perm ((List.perm_append_comm (l₁ := [D, E, F, G, T]) (l₂ := [A, B, C])).append_right Ps)
theorem Here.down4 (h : Here w W (T :: D :: E :: F :: G :: Ps)) : Here w W (D :: E :: F :: G :: T :: Ps) :=
  h.perm (List.perm_middle (l₁ := [D, E, F, G]) (a := T) (l₂ := Ps)).symm
theorem Here.down7 (h : Here w W (T :: A :: B :: C :: D :: E :: F :: G :: Ps)) : Here w W (A :: B :: C :: D :: E :: F :: G :: T :: Ps) :=
  h.perm (List.perm_middle (l₁ := [A, B, C, D, E, F, G]) (a := T) (l₂ := Ps)).symm
end
section
variable {w W W' : World} {Ps : List Thing} {gl g gr gx : Nat} {x xr : Lg} {d dr : Dm} {pb : List Int} {sp : ByteArray} {va vt : Value}
theorem livw_ref (h : LivW w W gl g gr gx x d pb xr sp dr va vt Ps) : ∃ vl vb, (1 ≤ x.stage ∧ x.stage ≤ 4 → vl = vb) ∧ RlH w W gr gx xr sp dr va vt (LogT gl g x vl :: DiskT g d :: BytesT vb pb :: Ps) := by
  obtain ⟨vl, vb, h1, h⟩ := h
  exact ⟨vl, vb, h1, Here.pick34 h⟩
theorem livw_back {vl vb : Value} (h1 : 1 ≤ x.stage ∧ x.stage ≤ 4 → vl = vb) (h : RlH w W gr gx xr sp dr va vt (LogT gl g x vl :: DiskT g d :: BytesT vb pb :: Ps)) : LivW w W gl g gr gx x d pb xr sp dr va vt Ps :=
  ⟨vl, vb, h1, Here.pick43 h⟩
/-- The op, put into memory. -/
theorem livw_box (h : LivW w W gl g gr gx x d pb xr sp dr va vt Ps) (cs : Array Value) (t : TypeId) : LivW w (W.alloc (.cells cs t)) gl g gr gx x d pb xr sp dr va vt (CellsT W.heap.size cs t :: Ps) := by
  obtain ⟨vl, vb, h1, h⟩ := h
  exact ⟨vl, vb, h1, Here.down7 (h.newCells cs t)⟩
theorem livw_op {o : Nat} {k l : Int} {A2 A3 : Option Addr} {n2 c2 n3 c3 : Nat} (h : LivW w W gl g gr gx x d pb xr sp dr va vt (CellsT o #[.int .i64 k, .int .i64 l, .slice A2 n2 c2, .slice A3 n3 c3] 83 :: Ps)) :
    W.cell? ⟨o, 0, none⟩ = some (.int .i64 k) ∧ W.cell? ⟨o, 1, none⟩ = some (.int .i64 l) ∧ W.cell? ⟨o, 2, none⟩ = some (.slice A2 n2 c2) ∧ W.cell? ⟨o, 3, none⟩ = some (.slice A3 n3 c3) := by
  obtain ⟨vl, vb, h1, h⟩ := h
  have hb := (Here.nth h 7 (by simp)).cells
  exact ⟨cell_of_row W o 0 _ _ _ hb, cell_of_row W o 1 _ _ _ hb, cell_of_row W o 2 _ _ _ hb, cell_of_row W o 3 _ _ _ hb⟩
theorem livw_cells (h : LivW w W gl g gr gx x d pb xr sp dr va vt Ps) : W.cell? ⟨gr, 0, none⟩ = some (.pointer (some ⟨gx, 0, none⟩)) ∧ W.cell? ⟨gr, 1, none⟩ = some (.int .u64 xr.gen) ∧ W.cell? ⟨gr, 4, none⟩ = some (.int .i64 xr.all) ∧ W.cell? ⟨gr, 5, none⟩ = some (.int .i64 xr.sure) ∧ W.cell? ⟨gr, 6, none⟩ = some (.int .i64 xr.stage) := by
  obtain ⟨vl, vb, _, h⟩ := livw_ref h
  have hc := rl_cells h
  exact ⟨hc.1, hc.2.1, hc.2.2.2.2.1, hc.2.2.2.2.2.1, hc.2.2.2.2.2.2.1⟩
/-! ### What is only read, in whatever order -/
theorem All_q (h : LivW w W gl g gr gx x d pb xr sp dr va vt Ps) (n : Nat) : Calls Try.prog 56 #[.pointer (some ⟨gl, 0, none⟩)] (W.drewN n) fun e W' => e = .returned (.int .i64 x.all) ∧ W' = W.drewN n :=
  (All_s (h.then_ (pw_below_drewN (Below.refl _ _) n))).mono fun _ _ ⟨a, b⟩ => ⟨a, b.symm⟩
theorem Sure_q (h : LivW w W gl g gr gx x d pb xr sp dr va vt Ps) (n : Nat) : Calls Try.prog 57 #[.pointer (some ⟨gl, 0, none⟩)] (W.drewN n) fun e W' => e = .returned (.int .i64 x.sure) ∧ W' = W.drewN n :=
  (Sure_s (h.then_ (pw_below_drewN (Below.refl _ _) n))).mono fun _ _ ⟨a, b⟩ => ⟨a, b.symm⟩
theorem Stage_q (h : LivW w W gl g gr gx x d pb xr sp dr va vt Ps) (n : Nat) : Calls Try.prog 51 #[.pointer (some ⟨gl, 0, none⟩)] (W.drewN n) fun e W' => e = .returned (.int .i64 x.stage) ∧ W' = W.drewN n :=
  (Stage_s (h.then_ (pw_below_drewN (Below.refl _ _) n))).mono fun _ _ ⟨a, b⟩ => ⟨a, b.symm⟩
theorem Gen_q (h : LivW w W gl g gr gx x d pb xr sp dr va vt Ps) (n : Nat) : Calls Try.prog 58 #[.pointer (some ⟨gl, 0, none⟩)] (W.drewN n) fun e W' => e = .returned (.int .u32 x.gen) ∧ W' = W.drewN n :=
  (Gen_s (h.then_ (pw_below_drewN (Below.refl _ _) n))).mono fun _ _ ⟨a, b⟩ => ⟨a, b.symm⟩
theorem RoomL_q (h : LivW w W gl g gr gx x d pb xr sp dr va vt Ps) (ht : x.tail ≤ Sz d) (r : Nat) (hr : r = Sz d - x.tail) (n : Nat) : Calls Try.prog 53 #[.pointer (some ⟨gl, 0, none⟩)] (W.drewN n) fun e W' => e = .returned (.int .i64 r) ∧ ∃ m, W' = W.drewN m := by
  subst hr
  exact RoomS_q h ht n
theorem rsize_q {z : Nat} (h : RefH w W gx dr va vt Ps) (hz : z = Sz dr) (h1 : 32 ≤ dr.b.length) (h2 : dr.b.length ≤ 262144) (n : Nat) : Calls Try.prog 78 #[.pointer (some ⟨gx, 0, none⟩)] (W.drewN n) fun e W' => e = .returned (.int .i64 z) ∧ W' = W.drewN n := by
  subst hz
  exact (RefSize (h.then_ (pw_below_drewN (Below.refl _ _) n)) h1 h2).mono fun _ _ ⟨a, b⟩ => ⟨a, b.symm⟩
set_option maxHeartbeats 1000000 in
set_option maxRecDepth 100000 in
theorem RlRoom_q (h : RlH w W gr gx xr sp dr va vt Ps) (ho : dr.Ok) (ht : xr.tail ≤ Sz dr) : Calls Try.prog 90 #[.pointer (some ⟨gr, 0, none⟩)] W fun e W' => e = .returned (.int .i64 ((Sz dr - xr.tail : Nat) : Int)) ∧ ∃ m, W' = W.drewN m := by
  have HH := Aside0.mk h
  have hlo := ho.lo
  have hhi := ho.hi
  obtain ⟨c0, _, _, c3, _⟩ := rl_cells h
  obtain ⟨z, hz⟩ : ∃ z, z = Sz dr := ⟨_, rfl⟩
  have HZ := Aside0.mk hz
  rw [← hz] at ht ⊢
  obtain ⟨t, ht2⟩ : ∃ t, t = xr.tail := ⟨_, rfl⟩
  have hzl : z ≤ 262144 := by rw [hz]; unfold Sz; omega
  rw [← ht2] at ht c3 ⊢
  have u1 : IntKind.i64.wrap ((z : Int) - (t : Int)) = ((z - t : Nat) : Int) := by
    rw [show (z : Int) - (t : Int) = ((z - t : Nat) : Int) by omega]
    exact IntWalk.i64_in _ ⟨by omega, by omega⟩
  clear h hz ht2
  go_enter Try.func90, Try.ntmps90
  go_wp2_with fail
  go_quiet (first | (go_at_call 78; exact Calls.quiet_of_same (rsize_q (rl_disk HH.out) HZ.out (by omega) hhi _)))
  go_wp2_with fail
  go_ret
  exact ⟨rfl, _, rfl⟩
theorem RlRoomL_q (h : LivW w W gl g gr gx x d pb xr sp dr va vt Ps) (ho : dr.Ok) (ht : xr.tail ≤ Sz dr) (r : Nat) (hr : r = Sz dr - xr.tail) (n : Nat) : Calls Try.prog 90 #[.pointer (some ⟨gr, 0, none⟩)] (W.drewN n) fun e W' => e = .returned (.int .i64 r) ∧ ∃ m, W' = W.drewN m := by
  subst hr
  obtain ⟨vl, vb, _, h⟩ := livw_ref h
  exact Calls.quiet_of (RlRoom_q (h.then_ (pw_below_drewN (Below.refl _ _) n)) ho ht)
/-- What an op leaves. -/
def DoPost (w : World) (g gx z i n : Nat) (e : Ending) (W' : World) : Prop :=
  ∃ (gl gr : Nat) (x : Lg) (d : Dm) (pb : List Int) (sp : ByteArray) (va vt : Value) (P N R : List (List Int)) (Ps : List Thing), e = .returned (.tuple #[.pointer (some ⟨gl, 0, none⟩), .pointer (some ⟨gr, 0, none⟩), .bool true]) ∧
    LivW w W' gl g gr gx x d pb x sp d va vt Ps ∧ (1 ≤ x.stage → x.stage ≤ 4 → sp = strOfNums pb) ∧ LivI x d pb P N R z (i + 1) ∧ d.b.length = n
theorem LivI.lim {P N R : List (List Int)} {z i : Nat} (h : LivI x d pb P N R z i) (hi : i ≤ 1000) : d.q.length ≤ 998000 ∧ x.tail ≤ Sz d ∧ x.area ≤ 1 ∧ x.all ≤ 1000000 ∧ x.stage ≤ 5 ∧ (0 ≤ x.gen ∧ x.gen < 4294967295) ∧ (x.stage = 2 → pb.length ≤ Sz d) := by
  have h1 := h.q
  have h2 := h.tail
  have h3 := h.fit
  have h4 := h.sz
  have h5 := h.alli
  have h6 := h.g0
  have h7 := h.g1
  refine ⟨by omega, by omega, h.area, by omega, h.stage, ⟨by omega, by omega⟩, fun hs => ?_⟩
  have := (h.parts (by omega) (by omega)).2
  omega
end
end Go.Proofs.Ytmbemlpmfklddaa.Own
