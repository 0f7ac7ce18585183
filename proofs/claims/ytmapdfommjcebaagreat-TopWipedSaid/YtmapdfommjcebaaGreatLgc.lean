/- A log with its disk and the parts that it holds, as one: each call in one, told by plain functions. Room: it only reads. Five steps; alive of the log's laws: it answers true. Great: is an op too much for a statement? alive of the log's laws: it answers true. -/
import Derived.Test.YtmapdfommjcebaaGreatLgb
import Derived.BigQuiet
import Derived.Deep.QuietTactic
import Derived.Lib.SlBytesConst
import Derived.Test.YtmapdfommjcebaaGreatLog1
import Derived.Deep.RegionHeldLaw
namespace Go.Proofs.YtmapdfommjcebaaGreat.Own
open Go.RowKit Go.Proofs.YtmapdfommjcebaaGreatW.PrintWords Go.Proofs.YtmapdfommjcebaaGreatW.PrintLast Go.Proofs.YtmapdfommjcebaaGreatW.PrintMore
/-- What Step answers. -/
def stepV (x : Lg) : Int × Int := if x.stage = 0 then (0, 4) else ((((x.stage + 1) % 6 : Nat) : Int), 0)
/-- The log behind a step. -/
def stepL (x : Lg) (parts : List Int) : Lg :=
  if x.stage = 0 then x else if x.stage = 4 then ⟨x.gen + 1, 1 - x.area, parts.length, x.all, x.sure, 5⟩ else { x with stage := (x.stage + 1) % 6 }
/-- The disk behind a step. -/
def stepD (x : Lg) (d : Dm) (parts : List Int) : Dm :=
  match x.stage with
  | 0 => d
  | 1 => d.flush.write (plc d (1 - x.area) 0) (List.replicate (Sz d) 0)
  | 2 => d.flush.write (plc d (1 - x.area) 0) parts
  | 3 => d.flush.write ((x.gen + 1) % 2 * 16) (slotB (x.gen + 1) ((1 - x.area : Nat) : Int))
  | 4 => d.flush.write (plc d x.area 0) (List.replicate (Sz d) 0)
  | _ => d.flush
/-- What Begin answers. -/
def begE (x : Lg) (d : Dm) (L : List (List Int)) : Int :=
  if x.stage ≠ 0 ∨ x.sure < x.all then 15 else if Sz d < (framesOf (recsOf 1 L)).length then 5 else 0
def begL (x : Lg) (d : Dm) (L : List (List Int)) : Lg := if begE x d L = 0 then { x with stage := 1 } else x
def begP (x : Lg) (d : Dm) (parts : List Int) (L : List (List Int)) : List Int := if begE x d L = 0 then framesOf (recsOf 1 L) else parts
/-- The log, its disk, its parts. -/
def WalS (w W : World) (gl g : Nat) (x : Lg) (d : Dm) (parts : List Int) (Ps : List Thing) : Prop :=
  ∃ vl vb, (1 ≤ x.stage ∧ x.stage ≤ 4 → vl = vb) ∧ Here w W (LogT gl g x vl :: DiskT g d :: BytesT vb parts :: Ps)
section
variable {w W W' : World} {Ps : List Thing} {g gl : Nat} {d : Dm} {x : Lg} {parts : List Int}
theorem WalS.below (h : WalS w W gl g x d parts Ps) : Below w.heap.size w W := by
  obtain ⟨_, _, _, h⟩ := h
  exact h.below
theorem WalS.then_ (h : WalS w W gl g x d parts Ps) (hb : Below W.heap.size W W') : WalS w W' gl g x d parts Ps := by
  obtain ⟨vl, vb, h1, h⟩ := h
  exact ⟨vl, vb, h1, h.then_ hb⟩
theorem WalS.drew (h : WalS w W gl g x d parts Ps) : WalS w W.drew gl g x d parts Ps := h.then_ (Below.refl _ _).drew
theorem WalS.alloc (h : WalS w W gl g x d parts Ps) (o : Obj) : WalS w (W.alloc o) gl g x d parts Ps := h.then_ (below_alloc (Below.refl _ _) o)
theorem WalS.diskOk (h : WalS w W gl g x d parts Ps) : d.Ok := by
  obtain ⟨_, _, _, h⟩ := h
  exact h.swap.diskOk
theorem WalS.fresh {vl : Value} (h : Here w W (LogT gl g x vl :: DiskT g d :: Ps)) (hs : x.stage = 0) : WalS w W gl g x d [] Ps :=
  ⟨vl, .slice none 0 0, fun h1 => by omega, h.addNil.third.third⟩
theorem Room_s (h : WalS w W gl g x d parts Ps) (ht : x.tail ≤ Sz d) : Calls Tryz.prog 29 #[.pointer (some ⟨gl, 0, none⟩)] W fun e W' => e = .returned (.int .i64 ((Sz d - x.tail : Nat) : Int)) ∧ WalS w W' gl g x d parts Ps := by
  obtain ⟨vl, vb, h1, h⟩ := h
  refine (Room_here h ht).mono ?_
  rintro e W' ⟨rfl, h⟩
  exact ⟨rfl, vl, vb, h1, h⟩
theorem Sync_s (h : WalS w W gl g x d parts Ps) (hq : d.q.length ≤ 1000000) : Calls Tryz.prog 8 #[.pointer (some ⟨gl, 0, none⟩)] W fun e W' => e = .returned (.int .i64 0) ∧ WalS w W' gl g { x with sure := x.all } d.flush parts Ps := by
  obtain ⟨vl, vb, h1, h⟩ := h
  refine (Sync_here h hq).mono ?_
  rintro e W' ⟨rfl, h⟩
  exact ⟨rfl, vl, vb, h1, h⟩
theorem Gen_s (h : WalS w W gl g x d parts Ps) : Calls Tryz.prog 18 #[.pointer (some ⟨gl, 0, none⟩)] W fun e W' => e = .returned (.int .u32 x.gen) ∧ W = W' := by
  obtain ⟨vl, vb, h1, h⟩ := h
  exact Gen_here h
theorem Append_s (h : WalS w W gl g x d parts Ps) (hq : d.q.length ≤ 1000000) (A : Option Addr) (n c : Nat) (b : List Int) (hn : n = b.length) (hC : (Kd.int .u8).C W A b.length b) (hc : b.length ≤ c) (ht : x.tail ≤ Sz d) (ha : x.area ≤ 1) (hal : x.all ≤ 1000000) :
    Calls Tryz.prog 7 #[.pointer (some ⟨gl, 0, none⟩), .slice A n c] W fun e W' => e = .returned (.tuple #[.int .i64 (appE x d b).1, .int .i64 (appE x d b).2]) ∧ WalS w W' gl g (appL x d b) (appD x d b) parts Ps := by
  obtain ⟨vl, vb, h1, h⟩ := h
  refine (Append_any h hq A n c b hn hC hc ht ha hal).mono ?_
  rintro e W' ⟨rfl, h⟩
  refine ⟨rfl, vl, vb, fun h2 => h1 ?_, h⟩
  unfold appL at h2
  by_cases hc : (appE x d b).2 = 0
  · rw [if_pos hc] at h2
    exact h2
  · rw [if_neg hc] at h2
    exact h2
theorem Begin_s (h : WalS w W gl g x d parts Ps) (A : Option Addr) (n c : Nat) (L : List (List Int)) (hn : n = L.length) (h0 : (Kd.slice 5 (Kd.int .u8)).C W A L.length L) (hL : L.length ≤ 1000) (hp : ∀ p ∈ L, p.length ≤ 60000) :
    Calls Tryz.prog 9 #[.pointer (some ⟨gl, 0, none⟩), .slice A n c] W fun e W' => e = .returned (.int .i64 (begE x d L)) ∧ WalS w W' gl g (begL x d L) d (begP x d parts L) Ps := by
  subst hn
  obtain ⟨vl, vb, h1, h⟩ := h
  unfold begL begP begE
  by_cases c1 : x.stage ≠ 0 ∨ x.sure < x.all
  · rw [if_pos c1]
    refine (Begin_busy h A c L h0 hL hp c1).mono ?_
    rintro e W' ⟨rfl, h⟩
    exact ⟨rfl, vl, vb, h1, h⟩
  · rw [if_neg c1]
    by_cases c2 : Sz d < (framesOf (recsOf 1 L)).length
    · rw [if_pos c2]
      refine (Begin_full h A c L h0 hL hp (by omega) (by omega) c2).mono ?_
      rintro e W' ⟨rfl, h⟩
      exact ⟨rfl, vl, vb, h1, h⟩
    · rw [if_neg c2]
      refine (Begin_yes h A c L h0 hL hp (by omega) (by omega) (by omega)).mono ?_
      rintro e W' ⟨v, rfl, h⟩
      exact ⟨rfl, v, v, fun _ => rfl, (Here.nth h 3 (by simp)).drop⟩
set_option maxHeartbeats 400000 in
set_option maxRecDepth 100000 in
theorem Step_0 {vp : Value} (h : Here w W (LogT gl g x vp :: Ps)) (hs : x.stage = 0) :
    Calls Tryz.prog 10 #[.pointer (some ⟨gl, 0, none⟩)] W fun e W' => e = .returned (.tuple #[.int .i64 0, .int .i64 4]) ∧ W = W' := by
  have HH := Aside0.mk h
  obtain ⟨c0, c1, c2, c3, c4, c5, c6, c7⟩ := lg_cells h
  rw [hs] at c6
  clear h
  go_enter Tryz.func10, Tryz.ntmps10
  go_wp2_with (go_at_call 28; go_must (refine (made_here HH.out).mono ?_; rintro e w1 ⟨rfl, rfl⟩))
  go_ret2
  exact ⟨rfl, rfl⟩
theorem Step_s (h : WalS w W gl g x d parts Ps) (hq : d.q.length ≤ 1000000) (ha : x.area ≤ 1) (hst : x.stage ≤ 5) (hg : 0 ≤ x.gen ∧ x.gen < 4294967295) (hp : x.stage = 2 → parts.length ≤ Sz d) :
    Calls Tryz.prog 10 #[.pointer (some ⟨gl, 0, none⟩)] W fun e W' => e = .returned (.tuple #[.int .i64 (stepV x).1, .int .i64 (stepV x).2]) ∧ WalS w W' gl g (stepL x parts) (stepD x d parts) parts Ps := by
  obtain ⟨vl, vb, h1, h⟩ := h
  obtain ⟨gen, area, tail, all, sure, stage⟩ := x
  match stage, hst, h1, h, hp with
  | 0, _, h1, h, _ =>
    refine (Step_0 h rfl).mono ?_
    rintro e W' ⟨rfl, rfl⟩
    exact ⟨rfl, vl, vb, h1, h⟩
  | 1, _, h1, h, _ =>
    refine (Step_1 h hq ha).mono ?_
    rintro e W' ⟨rfl, h⟩
    exact ⟨rfl, vl, vb, fun _ => h1 ⟨by simp, by simp⟩, h⟩
  | 2, _, h1, h, hp =>
    obtain rfl := h1 ⟨by simp, by simp⟩
    obtain ⟨A, c, rfl, _, _⟩ := (Here.nth h 2 (by simp)).bytes.slice
    refine (Step_2 h hq ha (hp rfl)).mono ?_
    rintro e W' ⟨rfl, h⟩
    exact ⟨rfl, _, _, fun _ => rfl, h⟩
  | 3, _, h1, h, _ =>
    refine (Step_3 h hq ha hg).mono ?_
    rintro e W' ⟨rfl, h⟩
    exact ⟨rfl, vl, vb, fun _ => h1 ⟨by simp, by simp⟩, h⟩
  | 4, _, h1, h, _ =>
    obtain rfl := h1 ⟨by simp, by simp⟩
    obtain ⟨A, c, rfl, _, _⟩ := (Here.nth h 2 (by simp)).bytes.slice
    refine (Step_4 h hq ha hg).mono ?_
    rintro e W' ⟨rfl, h⟩
    exact ⟨rfl, _, _, fun hh => absurd hh.2 (by simp [stepL]), h⟩
  | 5, _, h1, h, _ =>
    refine (Step_5 h hq ha).mono ?_
    rintro e W' ⟨rfl, h⟩
    have e1 : stepL ⟨gen, area, tail, all, sure, 5⟩ parts = ⟨gen, area, tail, all, sure, 0⟩ := by simp [stepL]
    have e2 : stepV ⟨gen, area, tail, all, sure, 5⟩ = (0, 0) := by simp [stepV]
    rw [e1, e2]
    exact ⟨rfl, vl, vb, fun hh => absurd hh.1 (by simp), h⟩
end
end Go.Proofs.YtmapdfommjcebaaGreat.Own
namespace Go.Proofs.YtmapdfommjcebaaGreat.Own
open Go.RowKit Go.Proofs.YtmapdfommjcebaaGreatW.PrintWords Go.Proofs.YtmapdfommjcebaaGreatW.PrintLast Go.Proofs.YtmapdfommjcebaaGreatW.PrintMore
section
variable {w W : World} {Ps : List Thing} {g gl : Nat} {d : Dm} {x : Lg} {vp : Value} {parts : List Int}
theorem size_q {z : Nat} (h : Here w W (DiskT g d :: Ps)) (hz : z = Sz d) (n : Nat) : Calls Tryz.prog 34 #[.pointer (some ⟨g, 0, none⟩)] (W.drewN n) fun e W' => e = .returned (.int .i64 z) ∧ W' = W.drewN n := by
  subst hz
  exact (size_here (h.then_ (pw_below_drewN (Below.refl _ _) n))).mono fun _ _ ⟨a, b⟩ => ⟨a, b.symm⟩
set_option maxHeartbeats 1000000 in
set_option maxRecDepth 100000 in
theorem Room_q (h : Here w W (LogT gl g x vp :: DiskT g d :: Ps)) (ht : x.tail ≤ Sz d) : Calls Tryz.prog 29 #[.pointer (some ⟨gl, 0, none⟩)] W fun e W' => e = .returned (.int .i64 ((Sz d - x.tail : Nat) : Int)) ∧ ∃ m, W' = W.drewN m := by
  have HH := Aside0.mk h
  obtain ⟨c0, c1, c2, c3, c4, c5, c6, c7⟩ := lg_cells h
  have h2 := h.swap.diskOk.hi
  obtain ⟨z, hz⟩ : ∃ z, z = Sz d := ⟨_, rfl⟩
  have hz2 : z ≤ 131072 := by rw [hz]; unfold Sz; omega
  rw [← hz] at ht
  have u1 : IntKind.i64.wrap ((z : Int) - (x.tail : Int)) = ((z - x.tail : Nat) : Int) := by
    rw [show (z : Int) - (x.tail : Int) = ((z - x.tail : Nat) : Int) by omega]
    exact IntWalk.i64_in _ ⟨by omega, by omega⟩
  have HZ := Aside0.mk hz
  clear h hz
  go_enter Tryz.func29, Tryz.ntmps29
  go_wp2_with (go_at_call 28; go_must (refine (made_here HH.out).mono ?_; rintro e w1 ⟨rfl, rfl⟩))
  go_quiet (first | (go_at_call 34; exact Calls.quiet_of_same (size_q HH.out.swap HZ.out _)))
  go_wp2_with fail
  go_ret
  rw [← HZ.out]
  exact ⟨rfl, _, rfl⟩
theorem RoomS_q (h : WalS w W gl g x d parts Ps) (ht : x.tail ≤ Sz d) (n : Nat) : Calls Tryz.prog 29 #[.pointer (some ⟨gl, 0, none⟩)] (W.drewN n) fun e W' => e = .returned (.int .i64 ((Sz d - x.tail : Nat) : Int)) ∧ ∃ m, W' = W.drewN m := by
  obtain ⟨vl, vb, h1, h⟩ := h
  exact Calls.quiet_of (Room_q (h.then_ (pw_below_drewN (Below.refl _ _) n)) ht)
end
end Go.Proofs.YtmapdfommjcebaaGreat.Own
namespace Go.Proofs.YtmapdfommjcebaaGreat.Own
open Go.RowKit Go.Proofs.YtmapdfommjcebaaGreatW.PrintWords Go.Proofs.YtmapdfommjcebaaGreatW.PrintLast Go.Proofs.YtmapdfommjcebaaGreatW.PrintMore
theorem BL_lit {w : World} {g : Nat} {t : TypeId} {fr : Nat × Nat} {A : Option Addr} {c : Nat} {l : List Int} (hb : w.heap[g]? = some (.cells #[.slice A l.length c] t fr)) (hc : l.length ≤ c) (hC : (Kd.int .u8).C w A l.length l) : BL.C w (some ⟨g, 0, none⟩) 1 [l] := by
  refine ⟨rfl, by decide, fun _ => ⟨_, rfl, fun j p hj => ?_⟩⟩
  match j, hj with
  | 0, hj =>
    obtain rfl : l = p := by simpa using hj
    refine ⟨[.slice A l.length c], rfl, ⟨A, c, rfl, hc, hC⟩, fun i u hu => ?_⟩
    have := cell_of_row w g i _ _ _ hb
    rw [add_plain, Nat.zero_mul, Nat.zero_add]
    rw [this]
    simpa using hu
/-- So many steps. -/
def runS (parts : List Int) : Nat → Lg × Dm → Lg × Dm
  | 0, s => s
  | n + 1, s => (stepL (runS parts n s).1 parts, stepD (runS parts n s).1 (runS parts n s).2 parts)
theorem runS_ok {parts : List Int} {gen : Int} {area tail all sure : Nat} {d : Dm} (ho : d.Ok) (hq : d.q.length ≤ 1000000) (hp : parts.length ≤ Sz d) (ha : area ≤ 1) (hg : 0 ≤ gen ∧ gen < 1000000) {k : Nat} (hk : k < 5) :
    (runS parts k (⟨gen, area, tail, all, sure, 1⟩, d)).2.q.length ≤ 1000000 ∧ (runS parts k (⟨gen, area, tail, all, sure, 1⟩, d)).1.area ≤ 1 ∧ (runS parts k (⟨gen, area, tail, all, sure, 1⟩, d)).1.stage ≤ 5 ∧
      (0 ≤ (runS parts k (⟨gen, area, tail, all, sure, 1⟩, d)).1.gen ∧ (runS parts k (⟨gen, area, tail, all, sure, 1⟩, d)).1.gen < 4294967295) ∧ ((runS parts k (⟨gen, area, tail, all, sure, 1⟩, d)).1.stage = 2 → parts.length ≤ Sz (runS parts k (⟨gen, area, tail, all, sure, 1⟩, d)).2) := by
  match k, hk with
  | 0, _ => exact ⟨hq, ha, by simp [runS], ⟨hg.1, by have := hg.2; simp only [runS]; omega⟩, fun h => by simp [runS] at h⟩
  | 1, _ => exact ⟨by simp [runS, stepD, Dm.write, Dm.flush], ha, by simp [runS, stepL], ⟨hg.1, by have := hg.2; show gen < _; omega⟩, fun _ => by
      show parts.length ≤ Sz (d.flush.write _ _)
      rw [Sz_write, Sz_flush ho]
      exact hp⟩
  | 2, _ => exact ⟨by simp [runS, stepD, stepL, Dm.write, Dm.flush], ha, by simp [runS, stepL], ⟨hg.1, by have := hg.2; show gen < _; omega⟩, fun h => by simp [runS, stepL] at h⟩
  | 3, _ => exact ⟨by simp [runS, stepD, stepL, Dm.write, Dm.flush], ha, by simp [runS, stepL], ⟨hg.1, by have := hg.2; show gen < _; omega⟩, fun h => by simp [runS, stepL] at h⟩
  | 4, _ => exact ⟨by simp [runS, stepD, stepL, Dm.write, Dm.flush], by show 1 - area ≤ 1; omega, by simp [runS, stepL], ⟨by show 0 ≤ gen + 1; omega, by have := hg.2; show gen + 1 < _; omega⟩, fun h => by simp [runS, stepL] at h⟩
theorem runS_last (parts : List Int) (gen : Int) (area tail all sure : Nat) (d : Dm) : (runS parts 5 (⟨gen, area, tail, all, sure, 1⟩, d)).1 = ⟨gen + 1, 1 - area, parts.length, all, sure, 0⟩ := by simp [runS, stepL]
theorem av_app1 : appE ⟨1, 0, 0, 0, 0, 0⟩ av0 [97, 98] = (1, 0) := by decide +kernel
theorem av_app2 : appE ⟨1, 0, 11, 1, 1, 0⟩ av2 [99] = (2, 0) := by decide +kernel
theorem av_beg : begE ⟨1, 0, 11, 0, 0, 0⟩ av5 [[115, 116, 97, 116, 101]] = 0 := by decide +kernel
theorem av_run : runS avP 5 (⟨1, 0, 11, 0, 0, 1⟩, av5) = (⟨2, 1, 14, 0, 0, 0⟩, av10) := by
  have e : (runS avP 5 (⟨1, 0, 11, 0, 0, 1⟩, av5)).2 = av10 := rfl
  have e2 : avP.length = 14 := by decide +kernel
  have e1 := runS_last avP 1 0 11 0 0 av5
  rw [e2] at e1
  rw [← e]
  exact Prod.ext e1 rfl
theorem av_byt4 : ByD av4 := ⟨by unfold Byt; decide +kernel, fun w hw => by simp [av4, Dm.settle] at hw⟩
theorem av_byt10 : ByD av10 := ⟨by unfold Byt; decide +kernel, fun w hw => by simp [av10, Dm.flush] at hw⟩
theorem av_sz : Sz av5 = 184 ∧ av5.q.length = 1 ∧ avP.length = 14 := by decide +kernel
end Go.Proofs.YtmapdfommjcebaaGreat.Own
namespace Go.Proofs.YtmapdfommjcebaaGreat.Own
open Go.RowKit Go.Proofs.YtmapdfommjcebaaGreatW.PrintWords Go.Proofs.YtmapdfommjcebaaGreatW.PrintLast Go.Proofs.YtmapdfommjcebaaGreatW.PrintMore
def greatR (n : Nat) (L : List (List Int)) : Prop := 1900 < n ∨ 5 < L.length ∨ ∃ p ∈ L, 1000 < p.length
instance (n : Nat) (L : List (List Int)) : Decidable (greatR n L) := by unfold greatR; infer_instance
end Go.Proofs.YtmapdfommjcebaaGreat.Own
namespace Go.Proofs.YtmapdfommjcebaaGreat.Own
open Go.RowKit Go.Proofs.YtmapdfommjcebaaGreatW.PrintWords Go.Proofs.YtmapdfommjcebaaGreatW.PrintLast Go.Proofs.YtmapdfommjcebaaGreatW.PrintMore
theorem av_in1 {w W : World} {gl g : Nat} {Ps : List Thing} (h : WalS w W gl g (appL ⟨1, 0, 0, 0, 0, 0⟩ av0 [97, 98]) (appD ⟨1, 0, 0, 0, 0, 0⟩ av0 [97, 98]) [] Ps) : WalS w W gl g ⟨1, 0, 11, 1, 0, 0⟩ av1 [] Ps := by
  unfold appL appD at h
  rw [av_app1, if_pos rfl, if_pos rfl] at h
  exact h
theorem av_in2 {w W : World} {gl g : Nat} {Ps : List Thing} (h : WalS w W gl g (appL ⟨1, 0, 11, 1, 1, 0⟩ av2 [99]) (appD ⟨1, 0, 11, 1, 1, 0⟩ av2 [99]) [] Ps) : WalS w W gl g ⟨1, 0, 21, 2, 1, 0⟩ av3 [] Ps := by
  unfold appL appD at h
  rw [av_app2, if_pos rfl, if_pos rfl] at h
  exact h
theorem av_in3 {w W : World} {gl g : Nat} {Ps : List Thing} (h : WalS w W gl g (begL ⟨1, 0, 11, 0, 0, 0⟩ av5 [[115, 116, 97, 116, 101]]) av5 (begP ⟨1, 0, 11, 0, 0, 0⟩ av5 [] [[115, 116, 97, 116, 101]]) Ps) :
    WalS w W gl g (runS avP 0 (⟨1, 0, 11, 0, 0, 1⟩, av5)).1 (runS avP 0 (⟨1, 0, 11, 0, 0, 1⟩, av5)).2 avP Ps := by
  unfold begL begP at h
  rw [av_beg, if_pos rfl, if_pos rfl] at h
  exact h
theorem WalS.disk {w W : World} {gl g : Nat} {x : Lg} {d : Dm} {parts : List Int} {Ps : List Thing} (h : WalS w W gl g x d parts Ps) : ∃ vl vb, (1 ≤ x.stage ∧ x.stage ≤ 4 → vl = vb) ∧ Here w W (DiskT g d :: LogT gl g x vl :: BytesT vb parts :: Ps) := by
  obtain ⟨vl, vb, h1, h⟩ := h
  exact ⟨vl, vb, h1, h.swap⟩
/-- The one element of a row, here and in each world behind. -/
theorem lit_facts {W : World} {A : Option Addr} {l : List Int} {s : ByteArray} (h : BL.C W A 1 [l]) (hs : strOfNums l = s) :
    ∃ ad A4 c4, A = some ad ∧ (∀ W' : World, Below W.heap.size W W' → W'.cell? ad = some (.slice A4 l.length c4) ∧ Sem.run Tryz.prog (convert 29 9 (.slice A4 l.length c4)) W' = .ok (.string s) W') := by
  subst hs
  obtain ⟨ad, A3, c3, e, x0, _, C3⟩ := atRows h 0 (by simp) rfl
  exact ⟨ad, A3, c3, e, fun W' hb => ⟨pw_cell_below hb x0, Kd.C_string Tryz.underlying29 Tryz.underlying5 Tryz.underlying9 (Kd.C_below C3 hb)⟩⟩
theorem stringS {W : World} {A : Option Addr} {c : Nat} {S : ByteArray} (h : (Kd.int .u8).C W A (List.replicate 184 (0 : Int)).length (List.replicate 184 0)) (hs : S = strOfNums (List.replicate 184 0)) : Sem.run Tryz.prog (convert 29 9 (.slice A 184 c)) W = .ok (.string S) W := by
  subst hs
  rw [List.length_replicate] at h
  exact Kd.C_string Tryz.underlying29 Tryz.underlying5 Tryz.underlying9 h
theorem str_ab : strOfNums [97, 98] = { data := #[97, 98] } := by decide +kernel
theorem str_state : strOfNums [115, 116, 97, 116, 101] = { data := #[115, 116, 97, 116, 101] } := by decide +kernel
abbrev AvS (W' : World) (a2 a4 : Addr) (g : Nat) (A0 A3 A5 : Option Addr) (c0 c3 c5 : Nat) (S : ByteArray) : Prop :=
  W'.cell? a2 = some (.slice A3 5 c3) ∧ W'.cell? a4 = some (.slice A5 2 c5) ∧ W'.cell? ⟨g, 0, none⟩ = some (.slice A0 184 c0) ∧
    Sem.run Tryz.prog (convert 29 9 (.slice A3 5 c3)) W' = .ok (.string { data := #[115, 116, 97, 116, 101] }) W' ∧ Sem.run Tryz.prog (convert 29 9 (.slice A5 2 c5)) W' = .ok (.string { data := #[97, 98] }) W' ∧
    Sem.run Tryz.prog (convert 29 9 (.slice A0 184 c0)) W' = .ok (.string S) W'
end Go.Proofs.YtmapdfommjcebaaGreat.Own
