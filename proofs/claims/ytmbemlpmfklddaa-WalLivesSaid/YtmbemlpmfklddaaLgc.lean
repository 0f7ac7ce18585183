/- A log with its disk and the parts that it holds, as one: each call in one, told by plain functions. Room: it only reads. Five steps; alive of the log's laws: it answers true. Great: is an op too much for a statement? alive of the log's laws: it answers true. -/
import Derived.Test.YtmbemlpmfklddaaLgb
import Derived.BigQuiet
import Derived.Deep.QuietTactic
import Derived.Lib.SlBytesConst
import Derived.Test.YtmbemlpmfklddaaLog1
import Derived.Deep.RegionHeldLaw
namespace Go.Proofs.Ytmbemlpmfklddaa.Own
open Go.RowKit Go.Proofs.YtmbemlpmfklddaaW.PrintWords Go.Proofs.YtmbemlpmfklddaaW.PrintLast Go.Proofs.YtmbemlpmfklddaaW.PrintMore
/-- What Step answers. -/
def stepV (x : Lg) : Int × Int := if x.stage = 0 then (0, 4) else ((((x.stage + 1) % 6 : Nat) : Int), 0)
/-- The log behind a step. -/
def stepL (x : Lg) (parts : List Int) : Lg :=
  if x.stage = 0 then x else if x.stage = 4 then ⟨x.gen + 1, 1 - x.area, parts.length, x.all, x.sure, 5⟩ else { x with stage := (x.stage + 1) % 6 }
/-- The disk behind a step. -/
def stepD (x : Lg) (d : Dm) (parts : List Int) : Dm :=
  match x.stage with
  | 0 => d
  | 1 => d.flush.write (plc d (1 - x.area) 0) (List.replicate (Sz d) 0)
  | 2 => d.flush.write (plc d (1 - x.area) 0) parts
  | 3 => d.flush.write ((x.gen + 1) % 2 * 16) (slotB (x.gen + 1) ((1 - x.area : Nat) : Int))
  | 4 => d.flush.write (plc d x.area 0) (List.replicate (Sz d) 0)
  | _ => d.flush
/-- What Begin answers. -/
def begE (x : Lg) (d : Dm) (L : List (List Int)) : Int :=
  if x.stage ≠ 0 ∨ x.sure < x.all then 15 else if Sz d < (framesOf (recsOf 1 L)).length then 5 else 0
def begL (x : Lg) (d : Dm) (L : List (List Int)) : Lg := if begE x d L = 0 then { x with stage := 1 } else x
def begP (x : Lg) (d : Dm) (parts : List Int) (L : List (List Int)) : List Int := if begE x d L = 0 then framesOf (recsOf 1 L) else parts
/-- The log, its disk, its parts. -/
def WalS (w W : World) (gl g : Nat) (x : Lg) (d : Dm) (parts : List Int) (Ps : List Thing) : Prop :=
  ∃ vl vb, (1 ≤ x.stage ∧ x.stage ≤ 4 → vl = vb) ∧ Here w W (LogT gl g x vl :: DiskT g d :: BytesT vb parts :: Ps)
section
variable {w W W' : World} {Ps : List Thing} {g gl : Nat} {d : Dm} {x : Lg} {parts : List Int}
theorem WalS.below (h : WalS w W gl g x d parts Ps) : Below w.heap.size w W := by
  obtain ⟨_, _, _, h⟩ := h
  exact h.below
theorem WalS.then_ (h : WalS w W gl g x d parts Ps) (hb : Below W.heap.size W W') : WalS w W' gl g x d parts Ps := by
  obtain ⟨vl, vb, h1, h⟩ := h
  exact ⟨vl, vb, h1, h.then_ hb⟩
theorem WalS.drew (h : WalS w W gl g x d parts Ps) : WalS w W.drew gl g x d parts Ps := h.then_ (Below.refl _ _).drew
theorem WalS.alloc (h : WalS w W gl g x d parts Ps) (o : Obj) : WalS w (W.alloc o) gl g x d parts Ps := h.then_ (below_alloc (Below.refl _ _) o)
theorem WalS.diskOk (h : WalS w W gl g x d parts Ps) : d.Ok := by
  obtain ⟨_, _, _, h⟩ := h
  exact h.swap.diskOk
theorem WalS.fresh {vl : Value} (h : Here w W (LogT gl g x vl :: DiskT g d :: Ps)) (hs : x.stage = 0) : WalS w W gl g x d [] Ps :=
  ⟨vl, .slice none 0 0, fun h1 => by omega, h.addNil.third.third⟩
theorem Room_s (h : WalS w W gl g x d parts Ps) (ht : x.tail ≤ Sz d) : Calls Try.prog 53 #[.pointer (some ⟨gl, 0, none⟩)] W fun e W' => e = .returned (.int .i64 ((Sz d - x.tail : Nat) : Int)) ∧ WalS w W' gl g x d parts Ps := by
  obtain ⟨vl, vb, h1, h⟩ := h
  refine (Room_here h ht).mono ?_
  rintro e W' ⟨rfl, h⟩
  exact ⟨rfl, vl, vb, h1, h⟩
theorem Sync_s (h : WalS w W gl g x d parts Ps) (hq : d.q.length ≤ 1000000) : Calls Try.prog 47 #[.pointer (some ⟨gl, 0, none⟩)] W fun e W' => e = .returned (.int .i64 0) ∧ WalS w W' gl g { x with sure := x.all } d.flush parts Ps := by
  obtain ⟨vl, vb, h1, h⟩ := h
  refine (Sync_here h hq).mono ?_
  rintro e W' ⟨rfl, h⟩
  exact ⟨rfl, vl, vb, h1, h⟩
theorem Stage_s (h : WalS w W gl g x d parts Ps) : Calls Try.prog 51 #[.pointer (some ⟨gl, 0, none⟩)] W fun e W' => e = .returned (.int .i64 x.stage) ∧ W = W' := by
  obtain ⟨vl, vb, h1, h⟩ := h
  exact Stage_here h
theorem Gen_s (h : WalS w W gl g x d parts Ps) : Calls Try.prog 58 #[.pointer (some ⟨gl, 0, none⟩)] W fun e W' => e = .returned (.int .u32 x.gen) ∧ W = W' := by
  obtain ⟨vl, vb, h1, h⟩ := h
  exact Gen_here h
theorem All_s (h : WalS w W gl g x d parts Ps) : Calls Try.prog 56 #[.pointer (some ⟨gl, 0, none⟩)] W fun e W' => e = .returned (.int .i64 x.all) ∧ W = W' := by
  obtain ⟨vl, vb, h1, h⟩ := h
  exact All_here h
theorem Sure_s (h : WalS w W gl g x d parts Ps) : Calls Try.prog 57 #[.pointer (some ⟨gl, 0, none⟩)] W fun e W' => e = .returned (.int .i64 x.sure) ∧ W = W' := by
  obtain ⟨vl, vb, h1, h⟩ := h
  exact Sure_here h
theorem Append_s (h : WalS w W gl g x d parts Ps) (hq : d.q.length ≤ 1000000) (A : Option Addr) (n c : Nat) (b : List Int) (hn : n = b.length) (hC : (Kd.int .u8).C W A b.length b) (hc : b.length ≤ c) (ht : x.tail ≤ Sz d) (ha : x.area ≤ 1) (hal : x.all ≤ 1000000) :
    Calls Try.prog 46 #[.pointer (some ⟨gl, 0, none⟩), .slice A n c] W fun e W' => e = .returned (.tuple #[.int .i64 (appE x d b).1, .int .i64 (appE x d b).2]) ∧ WalS w W' gl g (appL x d b) (appD x d b) parts Ps := by
  obtain ⟨vl, vb, h1, h⟩ := h
  refine (Append_any h hq A n c b hn hC hc ht ha hal).mono ?_
  rintro e W' ⟨rfl, h⟩
  refine ⟨rfl, vl, vb, fun h2 => h1 ?_, h⟩
  unfold appL at h2
  by_cases hc : (appE x d b).2 = 0
  · rw [if_pos hc] at h2
    exact h2
  · rw [if_neg hc] at h2
    exact h2
theorem Begin_s (h : WalS w W gl g x d parts Ps) (A : Option Addr) (n c : Nat) (L : List (List Int)) (hn : n = L.length) (h0 : (Kd.slice 5 (Kd.int .u8)).C W A L.length L) (hL : L.length ≤ 1000) (hp : ∀ p ∈ L, p.length ≤ 60000) :
    Calls Try.prog 48 #[.pointer (some ⟨gl, 0, none⟩), .slice A n c] W fun e W' => e = .returned (.int .i64 (begE x d L)) ∧ WalS w W' gl g (begL x d L) d (begP x d parts L) Ps := by
  subst hn
  obtain ⟨vl, vb, h1, h⟩ := h
  unfold begL begP begE
  by_cases c1 : x.stage ≠ 0 ∨ x.sure < x.all
  · rw [if_pos c1]
    refine (Begin_busy h A c L h0 hL hp c1).mono ?_
    rintro e W' ⟨rfl, h⟩
    exact ⟨rfl, vl, vb, h1, h⟩
  · rw [if_neg c1]
    by_cases c2 : Sz d < (framesOf (recsOf 1 L)).length
    · rw [if_pos c2]
      refine (Begin_full h A c L h0 hL hp (by omega) (by omega) c2).mono ?_
      rintro e W' ⟨rfl, h⟩
      exact ⟨rfl, vl, vb, h1, h⟩
    · rw [if_neg c2]
      refine (Begin_yes h A c L h0 hL hp (by omega) (by omega) (by omega)).mono ?_
      rintro e W' ⟨v, rfl, h⟩
      exact ⟨rfl, v, v, fun _ => rfl, (Here.nth h 3 (by simp)).drop⟩
set_option maxHeartbeats 400000 in
set_option maxRecDepth 100000 in
theorem Step_0 {vp : Value} (h : Here w W (LogT gl g x vp :: Ps)) (hs : x.stage = 0) :
    Calls Try.prog 49 #[.pointer (some ⟨gl, 0, none⟩)] W fun e W' => e = .returned (.tuple #[.int .i64 0, .int .i64 4]) ∧ W = W' := by
  have HH := Aside0.mk h
  obtain ⟨c0, c1, c2, c3, c4, c5, c6, c7⟩ := lg_cells h
  rw [hs] at c6
  clear h
  go_enter Try.func49, Try.ntmps49
  go_wp2_with (go_at_call 82; go_must (refine (made_here HH.out).mono ?_; rintro e w1 ⟨rfl, rfl⟩))
  go_ret2
  exact ⟨rfl, rfl⟩
theorem Step_s (h : WalS w W gl g x d parts Ps) (hq : d.q.length ≤ 1000000) (ha : x.area ≤ 1) (hst : x.stage ≤ 5) (hg : 0 ≤ x.gen ∧ x.gen < 4294967295) (hp : x.stage = 2 → parts.length ≤ Sz d) :
    Calls Try.prog 49 #[.pointer (some ⟨gl, 0, none⟩)] W fun e W' => e = .returned (.tuple #[.int .i64 (stepV x).1, .int .i64 (stepV x).2]) ∧ WalS w W' gl g (stepL x parts) (stepD x d parts) parts Ps := by
  obtain ⟨vl, vb, h1, h⟩ := h
  obtain ⟨gen, area, tail, all, sure, stage⟩ := x
  match stage, hst, h1, h, hp with
  | 0, _, h1, h, _ =>
    refine (Step_0 h rfl).mono ?_
    rintro e W' ⟨rfl, rfl⟩
    exact ⟨rfl, vl, vb, h1, h⟩
  | 1, _, h1, h, _ =>
    refine (Step_1 h hq ha).mono ?_
    rintro e W' ⟨rfl, h⟩
    exact ⟨rfl, vl, vb, fun _ => h1 ⟨by simp, by simp⟩, h⟩
  | 2, _, h1, h, hp =>
    obtain rfl := h1 ⟨by simp, by simp⟩
    obtain ⟨A, c, rfl, _, _⟩ := (Here.nth h 2 (by simp)).bytes.slice
    refine (Step_2 h hq ha (hp rfl)).mono ?_
    rintro e W' ⟨rfl, h⟩
    exact ⟨rfl, _, _, fun _ => rfl, h⟩
  | 3, _, h1, h, _ =>
    refine (Step_3 h hq ha hg).mono ?_
    rintro e W' ⟨rfl, h⟩
    exact ⟨rfl, vl, vb, fun _ => h1 ⟨by simp, by simp⟩, h⟩
  | 4, _, h1, h, _ =>
    obtain rfl := h1 ⟨by simp, by simp⟩
    obtain ⟨A, c, rfl, _, _⟩ := (Here.nth h 2 (by simp)).bytes.slice
    refine (Step_4 h hq ha hg).mono ?_
    rintro e W' ⟨rfl, h⟩
    exact ⟨rfl, _, _, fun hh => absurd hh.2 (by simp [stepL]), h⟩
  | 5, _, h1, h, _ =>
    refine (Step_5 h hq ha).mono ?_
    rintro e W' ⟨rfl, h⟩
    have e1 : stepL ⟨gen, area, tail, all, sure, 5⟩ parts = ⟨gen, area, tail, all, sure, 0⟩ := by simp [stepL]
    have e2 : stepV ⟨gen, area, tail, all, sure, 5⟩ = (0, 0) := by simp [stepV]
    rw [e1, e2]
    exact ⟨rfl, vl, vb, fun hh => absurd hh.1 (by simp), h⟩
end
end Go.Proofs.Ytmbemlpmfklddaa.Own
namespace Go.Proofs.Ytmbemlpmfklddaa.Own
open Go.RowKit Go.Proofs.YtmbemlpmfklddaaW.PrintWords Go.Proofs.YtmbemlpmfklddaaW.PrintLast Go.Proofs.YtmbemlpmfklddaaW.PrintMore
section
variable {w W : World} {Ps : List Thing} {g gl : Nat} {d : Dm} {x : Lg} {vp : Value} {parts : List Int}
theorem size_q {z : Nat} (h : Here w W (DiskT g d :: Ps)) (hz : z = Sz d) (n : Nat) : Calls Try.prog 74 #[.pointer (some ⟨g, 0, none⟩)] (W.drewN n) fun e W' => e = .returned (.int .i64 z) ∧ W' = W.drewN n := by
  subst hz
  exact (size_here (h.then_ (pw_below_drewN (Below.refl _ _) n))).mono fun _ _ ⟨a, b⟩ => ⟨a, b.symm⟩
set_option maxHeartbeats 1000000 in
set_option maxRecDepth 100000 in
theorem Room_q (h : Here w W (LogT gl g x vp :: DiskT g d :: Ps)) (ht : x.tail ≤ Sz d) : Calls Try.prog 53 #[.pointer (some ⟨gl, 0, none⟩)] W fun e W' => e = .returned (.int .i64 ((Sz d - x.tail : Nat) : Int)) ∧ ∃ m, W' = W.drewN m := by
  have HH := Aside0.mk h
  obtain ⟨c0, c1, c2, c3, c4, c5, c6, c7⟩ := lg_cells h
  have h2 := h.swap.diskOk.hi
  obtain ⟨z, hz⟩ : ∃ z, z = Sz d := ⟨_, rfl⟩
  have hz2 : z ≤ 131072 := by rw [hz]; unfold Sz; omega
  rw [← hz] at ht
  have u1 : IntKind.i64.wrap ((z : Int) - (x.tail : Int)) = ((z - x.tail : Nat) : Int) := by
    rw [show (z : Int) - (x.tail : Int) = ((z - x.tail : Nat) : Int) by omega]
    exact IntWalk.i64_in _ ⟨by omega, by omega⟩
  have HZ := Aside0.mk hz
  clear h hz
  go_enter Try.func53, Try.ntmps53
  go_wp2_with (go_at_call 82; go_must (refine (made_here HH.out).mono ?_; rintro e w1 ⟨rfl, rfl⟩))
  go_quiet (first | (go_at_call 74; exact Calls.quiet_of_same (size_q HH.out.swap HZ.out _)))
  go_wp2_with fail
  go_ret
  rw [← HZ.out]
  exact ⟨rfl, _, rfl⟩
theorem RoomS_q (h : WalS w W gl g x d parts Ps) (ht : x.tail ≤ Sz d) (n : Nat) : Calls Try.prog 53 #[.pointer (some ⟨gl, 0, none⟩)] (W.drewN n) fun e W' => e = .returned (.int .i64 ((Sz d - x.tail : Nat) : Int)) ∧ ∃ m, W' = W.drewN m := by
  obtain ⟨vl, vb, h1, h⟩ := h
  exact Calls.quiet_of (Room_q (h.then_ (pw_below_drewN (Below.refl _ _) n)) ht)
end
end Go.Proofs.Ytmbemlpmfklddaa.Own
namespace Go.Proofs.Ytmbemlpmfklddaa.Own
open Go.RowKit Go.Proofs.YtmbemlpmfklddaaW.PrintWords Go.Proofs.YtmbemlpmfklddaaW.PrintLast Go.Proofs.YtmbemlpmfklddaaW.PrintMore
theorem BL_lit {w : World} {g : Nat} {t : TypeId} {fr : Nat × Nat} {A : Option Addr} {c : Nat} {l : List Int} (hb : w.heap[g]? = some (.cells #[.slice A l.length c] t fr)) (hc : l.length ≤ c) (hC : (Kd.int .u8).C w A l.length l) : BL.C w (some ⟨g, 0, none⟩) 1 [l] := by
  refine ⟨rfl, by decide, fun _ => ⟨_, rfl, fun j p hj => ?_⟩⟩
  match j, hj with
  | 0, hj =>
    obtain rfl : l = p := by simpa using hj
    refine ⟨[.slice A l.length c], rfl, ⟨A, c, rfl, hc, hC⟩, fun i u hu => ?_⟩
    have := cell_of_row w g i _ _ _ hb
    rw [add_plain, Nat.zero_mul, Nat.zero_add]
    rw [this]
    simpa using hu
/-- So many steps. -/
def runS (parts : List Int) : Nat → Lg × Dm → Lg × Dm
  | 0, s => s
  | n + 1, s => (stepL (runS parts n s).1 parts, stepD (runS parts n s).1 (runS parts n s).2 parts)
theorem runS_ok {parts : List Int} {gen : Int} {area tail all sure : Nat} {d : Dm} (ho : d.Ok) (hq : d.q.length ≤ 1000000) (hp : parts.length ≤ Sz d) (ha : area ≤ 1) (hg : 0 ≤ gen ∧ gen < 1000000) {k : Nat} (hk : k < 5) :
    (runS parts k (⟨gen, area, tail, all, sure, 1⟩, d)).2.q.length ≤ 1000000 ∧ (runS parts k (⟨gen, area, tail, all, sure, 1⟩, d)).1.area ≤ 1 ∧ (runS parts k (⟨gen, area, tail, all, sure, 1⟩, d)).1.stage ≤ 5 ∧
      (0 ≤ (runS parts k (⟨gen, area, tail, all, sure, 1⟩, d)).1.gen ∧ (runS parts k (⟨gen, area, tail, all, sure, 1⟩, d)).1.gen < 4294967295) ∧ ((runS parts k (⟨gen, area, tail, all, sure, 1⟩, d)).1.stage = 2 → parts.length ≤ Sz (runS parts k (⟨gen, area, tail, all, sure, 1⟩, d)).2) := by
  match k, hk with
  | 0, _ => exact ⟨hq, ha, by simp [runS], ⟨hg.1, by have := hg.2; simp only [runS]; omega⟩, fun h => by simp [runS] at h⟩
  | 1, _ => exact ⟨by simp [runS, stepD, Dm.write, Dm.flush], ha, by simp [runS, stepL], ⟨hg.1, by have := hg.2; show gen < _; omega⟩, fun _ => by
      show parts.length ≤ Sz (d.flush.write _ _)
      rw [Sz_write, Sz_flush ho]
      exact hp⟩
  | 2, _ => exact ⟨by simp [runS, stepD, stepL, Dm.write, Dm.flush], ha, by simp [runS, stepL], ⟨hg.1, by have := hg.2; show gen < _; omega⟩, fun h => by simp [runS, stepL] at h⟩
  | 3, _ => exact ⟨by simp [runS, stepD, stepL, Dm.write, Dm.flush], ha, by simp [runS, stepL], ⟨hg.1, by have := hg.2; show gen < _; omega⟩, fun h => by simp [runS, stepL] at h⟩
  | 4, _ => exact ⟨by simp [runS, stepD, stepL, Dm.write, Dm.flush], by show 1 - area ≤ 1; omega, by simp [runS, stepL], ⟨by show 0 ≤ gen + 1; omega, by have := hg.2; show gen + 1 < _; omega⟩, fun h => by simp [runS, stepL] at h⟩
theorem runS_last (parts : List Int) (gen : Int) (area tail all sure : Nat) (d : Dm) : (runS parts 5 (⟨gen, area, tail, all, sure, 1⟩, d)).1 = ⟨gen + 1, 1 - area, parts.length, all, sure, 0⟩ := by simp [runS, stepL]
theorem av_app1 : appE ⟨1, 0, 0, 0, 0, 0⟩ av0 [97, 98] = (1, 0) := by decide +kernel
theorem av_app2 : appE ⟨1, 0, 11, 1, 1, 0⟩ av2 [99] = (2, 0) := by decide +kernel
theorem av_beg : begE ⟨1, 0, 11, 0, 0, 0⟩ av5 [[115, 116, 97, 116, 101]] = 0 := by decide +kernel
theorem av_run : runS avP 5 (⟨1, 0, 11, 0, 0, 1⟩, av5) = (⟨2, 1, 14, 0, 0, 0⟩, av10) := by
  have e : (runS avP 5 (⟨1, 0, 11, 0, 0, 1⟩, av5)).2 = av10 := rfl
  have e2 : avP.length = 14 := by decide +kernel
  have e1 := runS_last avP 1 0 11 0 0 av5
  rw [e2] at e1
  rw [← e]
  exact Prod.ext e1 rfl
theorem av_byt4 : ByD av4 := ⟨by unfold Byt; decide +kernel, fun w hw => by simp [av4, Dm.settle] at hw⟩
theorem av_byt10 : ByD av10 := ⟨by unfold Byt; decide +kernel, fun w hw => by simp [av10, Dm.flush] at hw⟩
theorem av_sz : Sz av5 = 184 ∧ av5.q.length = 1 ∧ avP.length = 14 := by decide +kernel
end Go.Proofs.Ytmbemlpmfklddaa.Own
namespace Go.Proofs.Ytmbemlpmfklddaa.Own
open Go.RowKit Go.Proofs.YtmbemlpmfklddaaW.PrintWords Go.Proofs.YtmbemlpmfklddaaW.PrintLast Go.Proofs.YtmbemlpmfklddaaW.PrintMore
def greatR (n : Nat) (L : List (List Int)) : Prop := 1900 < n ∨ 5 < L.length ∨ ∃ p ∈ L, 1000 < p.length
instance (n : Nat) (L : List (List Int)) : Decidable (greatR n L) := by unfold greatR; infer_instance
set_option maxHeartbeats 2000000 in
set_option maxRecDepth 100000 in
theorem Great_calls (k l : Int) (A2 : Option Addr) (n2 c2 : Nat) (A3 : Option Addr) (c3 : Nat) (L : List (List Int)) (w : World) (h0 : (Kd.slice 5 (Kd.int .u8)).C w A3 L.length L) :
    Calls Try.prog 44 #[.agg #[.int .i64 k, .int .i64 l, .slice A2 n2 c2, .slice A3 L.length c3]] w fun e w' => e = .returned (.bool (decide (greatR n2 L))) ∧ Below w.heap.size w w' := by
  have hu83 := Try.underlying83
  have H0 := Aside0.mk h0
  have HB := Aside0.mk (below_alloc (Below.refl w.heap.size w) (.cells #[.int .i64 k, .int .i64 l, .slice A2 n2 c2, .slice A3 L.length c3] 83))
  clear h0
  by_cases g1 : 1900 < n2
  · have HG := Aside0.mk (decide_eq_true (show greatR n2 L from .inl g1))
    have q1 : decide ((1900 : Int) < (n2 : Int)) = true := decide_eq_true (by omega)
    go_enter Try.func44, Try.ntmps44
    go_wp2_with fail
    go_ret
    exact ⟨by rw [HG.out]; rfl, HB.out⟩
  · have q1 : decide ((1900 : Int) < (n2 : Int)) = false := decide_eq_false (by omega)
    by_cases g2 : 5 < L.length
    · have HG := Aside0.mk (decide_eq_true (show greatR n2 L from .inr (.inl g2)))
      have q2 : decide ((5 : Int) < (L.length : Int)) = true := decide_eq_true (by omega)
      go_enter Try.func44, Try.ntmps44
      go_wp2_with fail
      go_ret
      exact ⟨by rw [HG.out]; rfl, HB.out⟩
    · have q2 : decide ((5 : Int) < (L.length : Int)) = false := decide_eq_false (by omega)
      have G1 := Aside0.mk g1
      have G2 := Aside0.mk g2
      have hl6 : L.length ≤ 5 := by omega
      go_enter Try.func44, Try.ntmps44
      go_wp2_with fail
      go_loopw [3] (fun v3 wr => ∃ (i : Nat), v3 = .int .i64 i ∧ i ≤ L.length ∧ wr = w.alloc (.cells #[.int .i64 k, .int .i64 l, .slice A2 n2 c2, .slice A3 L.length c3] 83) ∧ Aside0 (∀ p ∈ L.take i, p.length ≤ 1000)) (fun v3 _ => L.length - (intOf v3).toNat)
      case atStart => exact ⟨0, rfl, by omega, rfl, ⟨by simp⟩⟩
      case round =>
        obtain ⟨i, rfl, hi, rfl, HA⟩ := hrel
        by_cases hlt : i < L.length
        · have q3 : decide ((i : Int) < (L.length : Int)) = true := decide_eq_true (by omega)
          have u1 : IntKind.i64.wrap ((i : Int) + 1) = (i : Int) + 1 := IntWalk.i64_in _ ⟨by omega, by omega⟩
          obtain ⟨ad, Ai, ci, rfl, e0, ki, Ci⟩ := atRows H0.out i hlt rfl
          replace e0 := pw_cell_below (below_alloc (Below.refl w.heap.size w) (.cells #[.int .i64 k, .int .i64 l, .slice A2 n2 c2, .slice (some ad) L.length c3] 83)) e0
          clear Ci
          by_cases g3 : 1000 < L[i].length
          · have HG := Aside0.mk (decide_eq_true (show greatR n2 L from .inr (.inr ⟨L[i], List.getElem_mem hlt, g3⟩)))
            have q4 : decide ((1000 : Int) < (L[i].length : Int)) = true := decide_eq_true (by omega)
            go_wp2_with fail
            go_ret
            exact ⟨by rw [HG.out]; rfl, HB.out⟩
          · have q4 : decide ((1000 : Int) < (L[i].length : Int)) = false := decide_eq_false (by omega)
            have HA2 := Aside0.mk (show ∀ p ∈ L.take (i + 1), p.length ≤ 1000 by
              intro p hp
              rw [List.take_add_one, List.getElem?_eq_getElem hlt] at hp
              rcases List.mem_append.1 hp with hp | hp
              · exact HA.out p hp
              · simp at hp
                rw [hp]
                omega)
            go_wp2_with fail
            go_roundw
            case rel => exact ⟨i + 1, by go_num, by omega, trivial, HA2⟩
            case measure => simp [intOf]; omega
        · have q3 : decide ((i : Int) < (L.length : Int)) = false := decide_eq_false (by omega)
          obtain rfl : i = L.length := by omega
          have HG := Aside0.mk (decide_eq_false (show ¬ greatR n2 L by
            rintro (h | h | ⟨p, hp, h⟩)
            · exact G1.out h
            · exact G2.out h
            · have := HA.out p (by rw [List.take_length]; exact hp)
              omega))
          go_wp2_with fail
          go_ret
          exact ⟨by rw [HG.out]; rfl, HB.out⟩
end Go.Proofs.Ytmbemlpmfklddaa.Own
namespace Go.Proofs.Ytmbemlpmfklddaa.Own
open Go.RowKit Go.Proofs.YtmbemlpmfklddaaW.PrintWords Go.Proofs.YtmbemlpmfklddaaW.PrintLast Go.Proofs.YtmbemlpmfklddaaW.PrintMore
theorem av_in1 {w W : World} {gl g : Nat} {Ps : List Thing} (h : WalS w W gl g (appL ⟨1, 0, 0, 0, 0, 0⟩ av0 [97, 98]) (appD ⟨1, 0, 0, 0, 0, 0⟩ av0 [97, 98]) [] Ps) : WalS w W gl g ⟨1, 0, 11, 1, 0, 0⟩ av1 [] Ps := by
  unfold appL appD at h
  rw [av_app1, if_pos rfl, if_pos rfl] at h
  exact h
theorem av_in2 {w W : World} {gl g : Nat} {Ps : List Thing} (h : WalS w W gl g (appL ⟨1, 0, 11, 1, 1, 0⟩ av2 [99]) (appD ⟨1, 0, 11, 1, 1, 0⟩ av2 [99]) [] Ps) : WalS w W gl g ⟨1, 0, 21, 2, 1, 0⟩ av3 [] Ps := by
  unfold appL appD at h
  rw [av_app2, if_pos rfl, if_pos rfl] at h
  exact h
theorem av_in3 {w W : World} {gl g : Nat} {Ps : List Thing} (h : WalS w W gl g (begL ⟨1, 0, 11, 0, 0, 0⟩ av5 [[115, 116, 97, 116, 101]]) av5 (begP ⟨1, 0, 11, 0, 0, 0⟩ av5 [] [[115, 116, 97, 116, 101]]) Ps) :
    WalS w W gl g (runS avP 0 (⟨1, 0, 11, 0, 0, 1⟩, av5)).1 (runS avP 0 (⟨1, 0, 11, 0, 0, 1⟩, av5)).2 avP Ps := by
  unfold begL begP at h
  rw [av_beg, if_pos rfl, if_pos rfl] at h
  exact h
theorem WalS.disk {w W : World} {gl g : Nat} {x : Lg} {d : Dm} {parts : List Int} {Ps : List Thing} (h : WalS w W gl g x d parts Ps) : ∃ vl vb, (1 ≤ x.stage ∧ x.stage ≤ 4 → vl = vb) ∧ Here w W (DiskT g d :: LogT gl g x vl :: BytesT vb parts :: Ps) := by
  obtain ⟨vl, vb, h1, h⟩ := h
  exact ⟨vl, vb, h1, h.swap⟩
/-- The one element of a row, here and in each world behind. -/
theorem lit_facts {W : World} {A : Option Addr} {l : List Int} {s : ByteArray} (h : BL.C W A 1 [l]) (hs : strOfNums l = s) :
    ∃ ad A4 c4, A = some ad ∧ (∀ W' : World, Below W.heap.size W W' → W'.cell? ad = some (.slice A4 l.length c4) ∧ Sem.run Try.prog (convert 22 9 (.slice A4 l.length c4)) W' = .ok (.string s) W') := by
  subst hs
  obtain ⟨ad, A3, c3, e, x0, _, C3⟩ := atRows h 0 (by simp) rfl
  exact ⟨ad, A3, c3, e, fun W' hb => ⟨pw_cell_below hb x0, Kd.C_string Try.underlying22 Try.underlying5 Try.underlying9 (Kd.C_below C3 hb)⟩⟩
theorem stringS {W : World} {A : Option Addr} {c : Nat} {S : ByteArray} (h : (Kd.int .u8).C W A (List.replicate 184 (0 : Int)).length (List.replicate 184 0)) (hs : S = strOfNums (List.replicate 184 0)) : Sem.run Try.prog (convert 22 9 (.slice A 184 c)) W = .ok (.string S) W := by
  subst hs
  rw [List.length_replicate] at h
  exact Kd.C_string Try.underlying22 Try.underlying5 Try.underlying9 h
theorem str_ab : strOfNums [97, 98] = { data := #[97, 98] } := by decide +kernel
theorem str_state : strOfNums [115, 116, 97, 116, 101] = { data := #[115, 116, 97, 116, 101] } := by decide +kernel
abbrev AvS (W' : World) (a2 a4 : Addr) (g : Nat) (A0 A3 A5 : Option Addr) (c0 c3 c5 : Nat) (S : ByteArray) : Prop :=
  W'.cell? a2 = some (.slice A3 5 c3) ∧ W'.cell? a4 = some (.slice A5 2 c5) ∧ W'.cell? ⟨g, 0, none⟩ = some (.slice A0 184 c0) ∧
    Sem.run Try.prog (convert 22 9 (.slice A3 5 c3)) W' = .ok (.string { data := #[115, 116, 97, 116, 101] }) W' ∧ Sem.run Try.prog (convert 22 9 (.slice A5 2 c5)) W' = .ok (.string { data := #[97, 98] }) W' ∧
    Sem.run Try.prog (convert 22 9 (.slice A0 184 c0)) W' = .ok (.string S) W'
set_option maxHeartbeats 40000000 in
set_option maxRecDepth 100000 in
theorem alive14 (w : World) : Calls Try.prog 36 #[] w fun e w' => e = .returned (.bool true) ∧ Below w.heap.size w w' := by
  have kc := fun (w : World) (C : Array Value) (n c : Nat) => Lib.run_convert_bytes_const (P := Try.prog) w 22 5 C n c Try.underlying22 Try.underlying5
  have HH := Aside0.mk (Here.nil w)
  have SZ := Aside0.mk av_sz
  have t1 : True := trivial
  have t2 : True := trivial
  go_enter Try.func36, Try.ntmps36
  go_wp2_with (first
    | (go_at_call 20; go_must (refine (New_here HH.out 400 (by omega) (by omega)).mono ?_; rintro e w1 ⟨g, rfl, h⟩; have H1 := Aside0.mk h; clear HH h))
    | (go_at_call 45; go_must (refine (Format_here H1.out (by simp [Dm.new])).mono ?_; rintro e w2 ⟨gl, rfl, h⟩; have H2 := Aside0.mk (show WalS w w2 gl g ⟨1, 0, 0, 0, 0, 0⟩ av0 [] [] from WalS.fresh h rfl); clear H1 h))
    | (go_at_call 46; have _t := t1; clear t1; go_must (refine (Append_s (H2.out.alloc _) (by decide +kernel) _ 2 2 [97, 98] rfl (C_lit [97, 98] (heap_at rfl) rfl (by simp)) (by simp) (Nat.zero_le _) (by simp) (by simp)).mono ?_; rw [av_app1]; rintro e w3 ⟨rfl, h⟩; have H3 := Aside0.mk (av_in1 h); clear H2 h))
    | (go_at_call 47; go_must (refine (Sync_s H3.out (by decide +kernel)).mono ?_; rintro e w4 ⟨rfl, h⟩; have H4 := Aside0.mk (show WalS w w4 gl g ⟨1, 0, 11, 1, 1, 0⟩ av2 [] [] from h); clear H3 h))
    | (go_at_call 46; have _t := t2; clear t2; go_must (refine (Append_s (H4.out.alloc _) (by decide +kernel) _ 1 1 [99] rfl (C_lit [99] (heap_at rfl) rfl (by simp)) (by simp) (by decide +kernel) (by simp) (by simp)).mono ?_; rw [av_app2]; rintro e w5 ⟨rfl, h⟩; obtain ⟨vl5, vb5, _, h5⟩ := (av_in2 h).disk; have H5 := Aside0.mk h5; clear H4 h h5))
    | (go_at_call 22; go_must (refine (Crash_here H5.out (by decide +kernel) 3).mono ?_; rintro e w6 ⟨rfl, h⟩; have H6 := Aside0.mk (show Here w w6 (DiskT g av4 :: _) from h); clear H5 h))
    | (go_at_call 40; go_must (refine (Open_yes H6.out (by decide +kernel) av_byt4 1 0 11 [(2, [97, 98])] [] [[97, 98]] av_slots4 (by omega) av_read4 (by simp) (by decide)).mono ?_; rintro e w7 ⟨gl2, vp, vr, rfl, h⟩; obtain ⟨Aq, cq, Ar, cr, rfl, rfl, _, _⟩ := (Here.nth h 2 (by simp)).two; have H7 := Aside0.mk (show WalS w w7 gl2 g ⟨1, 0, 11, 0, 0, 0⟩ av5 [] _ from WalS.fresh h rfl); clear H6 h))
    | (go_at_call 48; go_must (refine (Begin_s ((H7.out.alloc _).alloc _) _ 1 1 [[115, 116, 97, 116, 101]] rfl (BL_lit (l := [115, 116, 97, 116, 101]) (heap_at (by simp)) (by simp) (Kd.C_below (C_lit [115, 116, 97, 116, 101] (heap_at rfl) rfl (by simp)) (below_alloc (Below.refl _ _) _))) (by simp) (by simp)).mono ?_; rw [av_beg]; rintro e w8 ⟨rfl, h⟩; have H8 := Aside0.mk (av_in3 h); clear H7 h)))
  obtain ⟨Qs, hQs⟩ : ∃ Qs : List Thing, Qs = TwoT (.slice Aq ([] : List (List Int)).length cq) [] (.slice Ar [[(97 : Int), 98]].length cr) [[97, 98]] :: LogT gl g ⟨1, 0, 21, 2, 1, 0⟩ vl5 :: BytesT vb5 [] :: [] := ⟨_, rfl⟩
  have H8' := Aside0.mk (show WalS w w8 gl2 g (runS avP 0 (⟨1, 0, 11, 0, 0, 1⟩, av5)).1 (runS avP 0 (⟨1, 0, 11, 0, 0, 1⟩, av5)).2 avP Qs from by rw [hQs]; exact H8.out)
  have HQS := Aside0.mk hQs
  have HO := Aside0.mk (show av5.Ok from H8.out.diskOk)
  obtain ⟨pb, hpb⟩ : ∃ pb, pb = avP := ⟨_, rfl⟩
  obtain ⟨s0, hs0⟩ : ∃ s0 : Lg × Dm, s0 = (⟨1, 0, 11, 0, 0, 1⟩, av5) := ⟨_, rfl⟩
  rw [← hpb, ← hs0] at H8'
  have HPB := Aside0.mk hpb
  have HS0 := Aside0.mk hs0
  clear H8 hQs hpb hs0
  have t3 : True := trivial
  have t4 : True := trivial
  go_loopw [12] (fun v12 wr => ∃ (k : Nat), v12 = .int .i64 k ∧ k ≤ 5 ∧ Aside0 (WalS w wr gl2 g (runS pb k s0).1 (runS pb k s0).2 pb Qs)) (fun v12 _ => 5 - (intOf v12).toNat)
  case atStart => exact ⟨0, rfl, by omega, H8'⟩
  case round =>
    clear H8'
    obtain ⟨k, rfl, hk, HI⟩ := hrel
    by_cases hlt : k < 5
    · have q1 : decide ((k : Int) < 5) = true := decide_eq_true (by omega)
      have u1 : IntKind.i64.wrap ((k : Int) + 1) = (k : Int) + 1 := IntWalk.i64_in _ ⟨by omega, by omega⟩
      have HOK := Aside0.mk (runS_ok (parts := avP) (gen := 1) (area := 0) (tail := 11) (all := 0) (sure := 0) HO.out (by rw [SZ.out.2.1]; omega) (by rw [SZ.out.2.2, SZ.out.1]; omega) (by omega) ⟨by omega, by omega⟩ hlt)
      rw [← HPB.out, ← HS0.out] at HOK
      go_wp2_with (go_at_call 49; go_must (refine (Step_s HI.out HOK.out.1 HOK.out.2.1 HOK.out.2.2.1 HOK.out.2.2.2.1 HOK.out.2.2.2.2).mono ?_; rintro e w9 ⟨rfl, h⟩; have HJ := Aside0.mk (show WalS w w9 gl2 g (runS pb (k + 1) s0).1 (runS pb (k + 1) s0).2 pb Qs from h); clear h HI))
      go_roundw
      case rel => exact ⟨k + 1, by go_num, by omega, HJ⟩
      case measure => simp [intOf]; omega
    · obtain rfl : k = 5 := by omega
      rw [HPB.out, HS0.out, av_run] at HI
      obtain ⟨vl9, vb9, _, h9⟩ := HI.out.disk
      rw [HQS.out] at h9
      have H9 := Aside0.mk h9
      obtain ⟨S, hS⟩ : ∃ S, S = strOfNums (List.replicate 184 0) := ⟨_, rfl⟩
      have HSS := Aside0.mk hS
      have qS : (S.toList == S.toList) = true := beq_self_eq_true _
      have hmk : ∀ W : World, Sem.run Try.prog (Instr.makeSlice 22 (.int .i64 184) (.int .i64 184)) W = .ok (.slice (some ⟨W.heap.size, 0, none⟩) 184 184) (W.alloc (.cells (madeCells #[.int .u8 0] 184) 5)) := print_make (P := Try.prog) 22 5 .u8 1 Try.underlying22 info5 (by omega) 184 (by omega)
      clear HI h9 hS
      go_wp2_with (first
        | (go_at_call 50; go_must (refine (Areas_here H9.out (by decide +kernel)).mono ?_; rw [av_area0]; rintro e w10 ⟨v0, v1, rfl, h⟩; obtain ⟨A0, c0, hv0, k0, _⟩ := (Here.nth h 1 (by simp)).bytes.slice; rw [List.length_replicate] at hv0; subst hv0; obtain ⟨A1, c1, hv1, k1, _⟩ := (Here.nth h 2 (by simp)).bytes.slice; obtain ⟨n1, hn1⟩ : ∃ n1, n1 = (av10.read (plc av10 1 0) (Sz av10)).length := ⟨_, rfl⟩; rw [← hn1] at hv1; clear k1 hn1; subst hv1; have H10 := Aside0.mk ((h.newCells #[.slice A0 184 c0, .slice A1 n1 c1] 90).swap); clear h H9))
        | (go_at_call 40; have _t := t3; clear t3; go_must (refine (Open_yes H10.out (by decide +kernel) av_byt10 2 1 14 [(1, [115, 116, 97, 116, 101])] [[115, 116, 97, 116, 101]] [] av_slots10 (by omega) av_read10 (by simp) (by decide)).mono ?_; rintro e w11 ⟨gl3, vp2, vr2, rfl, h⟩; obtain ⟨A2, c2, B2, d2, rfl, rfl, K2, _⟩ := (Here.nth h 2 (by simp)).two; obtain ⟨a2, A3, c3, rfl, f2⟩ := lit_facts K2 str_state; obtain ⟨_, _, B4, c4, _, e4, _, K4⟩ := (Here.nth h 8 (by simp)).two; injection e4 with e4 _ _; subst e4; obtain ⟨a4, A5, c5, rfl, f4⟩ := lit_facts K4 str_ab; have H11 := Aside0.mk h; clear h H10))
        | (go_at_call 40; go_must (refine (Open_nil _).mono ?_; rintro e w12 ⟨rfl, rfl⟩; obtain ⟨r0, r1, _, _, rl⟩ := cellsA_of (Here.nth H11.out 3 (by simp)); have x2 : w11.cell? a2 = some (.slice A3 5 c3) := (f2 w11 (Below.refl _ _)).1; have x4 : w11.cell? a4 = some (.slice A5 2 c5) := (f4 w11 (Below.refl _ _)).1; have CA := bytes_of (Here.nth H11.out 4 (by simp)); have hK : ∀ W' : World, Below w11.heap.size w11 W' → AvS W' a2 a4 w10.heap.size A0 A3 A5 c0 c3 c5 S := fun W' hb => ⟨(f2 _ hb).1, (f4 _ hb).1, pw_cell_below hb r0, (f2 _ hb).2, (f4 _ hb).2, stringS (c := c0) (Kd.C_below CA hb) HSS.out⟩; have HK := Aside0.mk hK; have zB : Sem.run Try.prog (convert 22 9 (.slice (some ⟨w11.heap.size, 0, none⟩) 184 184)) (w11.alloc (.cells (madeCells #[.int .u8 0] 184) 5)).drew = .ok (.string S) (w11.alloc (.cells (madeCells #[.int .u8 0] 184) 5)).drew := stringS (c := 184) (Kd.C_below (made_C w11 184 (by omega)) (Below.refl _ _).drew) HSS.out; clear hK CA f2 f4)))
      clear kc r1 K2 K4 k0 HQS SZ HO HPB HS0 x2 x4 r0
      dsimp only [List.append]
      go_region_held_law (fun w' => AvS w' a2 a4 w10.heap.size A0 A3 A5 c0 c3 c5 S)
        (first
          | exact HK.out _ (Below.refl _ _)
          | exact HK.out _ (Below.refl _ _).drew
          | exact HK.out _ (below_alloc (Below.refl _ _) _)
          | exact HK.out _ (below_alloc (Below.refl _ _) _).drew
          | exact HK.out _ (below_alloc (Below.refl _ _).drew _))
        (first
          | (go_at_call 58; go_must (refine (Gen_here (H11.out.alloc _).drew).mono ?_; rintro e w13 ⟨rfl, rfl⟩))
          | (go_at_call 51; go_must (refine (Stage_here (Here.nth ((H11.out.alloc _).drew) 6 (by simp))).mono ?_; rintro e w13 ⟨rfl, rfl⟩)))
      all_goals
        go_wp2_with fail
        go_ret
        exact ⟨rfl, ((H11.out.alloc _).drew).below⟩
end Go.Proofs.Ytmbemlpmfklddaa.Own
