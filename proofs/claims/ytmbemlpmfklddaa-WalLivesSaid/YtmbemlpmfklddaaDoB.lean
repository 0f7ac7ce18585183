/- A log and its reference's, side by side: each call of both. -/
import Derived.Test.YtmbemlpmfklddaaDoA
namespace Go.Proofs.Ytmbemlpmfklddaa.Own
open Go.RowKit Go.Proofs.YtmbemlpmfklddaaW.PrintWords Go.Proofs.YtmbemlpmfklddaaW.PrintLast Go.Proofs.YtmbemlpmfklddaaW.PrintMore
theorem Here.textv {w W : World} {Ps : List Thing} {v : Value} {L : List (List Int)} (h : Here w W (RawT 1 9 v (strsR L) :: Ps)) : ∃ A c, v = .slice A L.length c := by
  obtain ⟨A, c, e, _, _⟩ := h.raw
  rw [strsR_len] at e
  exact ⟨A, c, e⟩
section
variable {w W W' : World} {Ps : List Thing} {gl g gr gx : Nat} {x xr x1 xr1 : Lg} {d dr d1 dr1 : Dm} {pb pb1 : List Int} {sp : ByteArray} {va vt : Value}
theorem Append_e (h : LivW w W gl g gr gx x d pb xr sp dr va vt Ps) (hq : d.q.length ≤ 998000) (A : Option Addr) (c : Nat) (b : List Int) (hC : (Kd.int .u8).C w A b.length b) (hc : b.length ≤ c) (ht : x.tail ≤ Sz d) (ha : x.area ≤ 1) (hal : x.all ≤ 1000000)
    {ea eb : Int} (he : (ea, eb) = appE x d b) (hx : x1 = appL x d b) (hd : d1 = appD x d b) :
    Calls Try.prog 46 #[.pointer (some ⟨gl, 0, none⟩), .slice A b.length c] W fun e W' => e = .returned (.tuple #[.int .i64 ea, .int .i64 eb]) ∧ LivW w W' gl g gr gx x1 d1 pb xr sp dr va vt Ps := by
  obtain rfl : ea = (appE x d b).1 := congrArg Prod.fst he
  obtain rfl : eb = (appE x d b).2 := congrArg Prod.snd he
  subst hx hd
  exact Append_s h (by omega) A b.length c b rfl (Kd.C_below hC h.below) hc ht ha hal
theorem Append_n (h : LivW w W gl g gr gx x d pb xr sp dr va vt Ps) (hq : d.q.length ≤ 998000) (A : Option Addr) (n c : Nat) (b : List Int) (hn : n = b.length) (hC : (Kd.int .u8).C w A b.length b) (hc : n ≤ c) (ht : x.tail ≤ Sz d) (ha : x.area ≤ 1) (hal : x.all ≤ 1000000)
    {ea eb : Int} (he : (ea, eb) = appE x d b) (hx : x1 = appL x d b) (hd : d1 = appD x d b) :
    Calls Try.prog 46 #[.pointer (some ⟨gl, 0, none⟩), .slice A n c] W fun e W' => e = .returned (.tuple #[.int .i64 ea, .int .i64 eb]) ∧ LivW w W' gl g gr gx x1 d1 pb xr sp dr va vt Ps := by
  subst hn
  exact Append_e h hq A c b hC hc ht ha hal he hx hd
theorem RlAppend_e (h : LivW w W gl g gr gx x d pb xr sp dr va vt Ps) (ho : dr.Ok) (hq : dr.q.length ≤ 998000) (b : List Int) (hby : Byt b) (s : ByteArray) (hs : s = strOfNums b) (hl : b.length ≤ 300000) (ht : xr.tail ≤ Sz dr) (ha : xr.area ≤ 1) (hal : xr.all ≤ 1000000)
    {ea eb : Int} (he : (ea, eb) = appE xr dr b) (hx : xr1 = appL xr dr b) (hd : dr1 = appD xr dr b) :
    Calls Try.prog 85 #[.pointer (some ⟨gr, 0, none⟩), .string s] W fun e W' => e = .returned (.tuple #[.int .i64 ea, .int .i64 eb]) ∧ ∃ va' vt', LivW w W' gl g gr gx x d pb xr1 sp dr1 va' vt' Ps := by
  obtain rfl : ea = (appE xr dr b).1 := congrArg Prod.fst he
  obtain rfl : eb = (appE xr dr b).2 := congrArg Prod.snd he
  subst hx hd
  obtain ⟨vl, vb, h1, h⟩ := livw_ref h
  refine (RlAppend_any h ho (by omega) b hby s hs hl ht ha hal).mono ?_
  rintro e W' ⟨rfl, va', vt', h⟩
  exact ⟨rfl, va', vt', livw_back h1 h⟩
theorem Sync_e (h : LivW w W gl g gr gx x d pb xr sp dr va vt Ps) (hq : d.q.length ≤ 998000) (hx : x1 = { x with sure := x.all }) (hd : d1 = d.flush) :
    Calls Try.prog 47 #[.pointer (some ⟨gl, 0, none⟩)] W fun e W' => e = .returned (.int .i64 0) ∧ LivW w W' gl g gr gx x1 d1 pb xr sp dr va vt Ps := by
  subst hx hd
  exact Sync_s h (by omega)
theorem RlSync_e (h : LivW w W gl g gr gx x d pb xr sp dr va vt Ps) (ho : dr.Ok) (hq : dr.q.length ≤ 998000) (hx : xr1 = { xr with sure := xr.all }) (hd : dr1 = dr.flush) :
    Calls Try.prog 86 #[.pointer (some ⟨gr, 0, none⟩)] W fun e W' => e = .returned (.tuple #[]) ∧ ∃ va' vt', LivW w W' gl g gr gx x d pb xr1 sp dr1 va' vt' Ps := by
  subst hx hd
  obtain ⟨vl, vb, h1, h⟩ := livw_ref h
  refine (RlSync h ho (by omega)).mono ?_
  rintro e W' ⟨rfl, va', vt', h⟩
  exact ⟨rfl, va', vt', livw_back h1 h⟩
theorem Step_e (h : LivW w W gl g gr gx x d pb xr sp dr va vt Ps) (hq : d.q.length ≤ 998000) (ha : x.area ≤ 1) (hst : x.stage ≤ 5) (hg : 0 ≤ x.gen ∧ x.gen < 4294967295) (hp : x.stage = 2 → pb.length ≤ Sz d)
    {ea eb : Int} (he : (ea, eb) = stepV x) (hx : x1 = stepL x pb) (hd : d1 = stepD x d pb) :
    Calls Try.prog 49 #[.pointer (some ⟨gl, 0, none⟩)] W fun e W' => e = .returned (.tuple #[.int .i64 ea, .int .i64 eb]) ∧ LivW w W' gl g gr gx x1 d1 pb xr sp dr va vt Ps := by
  obtain rfl : ea = (stepV x).1 := congrArg Prod.fst he
  obtain rfl : eb = (stepV x).2 := congrArg Prod.snd he
  subst hx hd
  exact Step_s h (by omega) ha hst hg hp
theorem RlStep_e (h : LivW w W gl g gr gx x d pb xr sp dr va vt Ps) (ho : dr.Ok) (hq : dr.q.length ≤ 998000) (ha : xr.area ≤ 1) (hst : xr.stage ≤ 5) (hg : 0 ≤ xr.gen ∧ xr.gen < 4294967295) (pr : List Int) (hsp : 1 ≤ xr.stage → xr.stage ≤ 4 → sp = strOfNums pr) (hp : xr.stage = 2 → pr.length ≤ Sz dr)
    {ea eb : Int} (he : (ea, eb) = stepV xr) (hx : xr1 = stepL xr pr) (hd : dr1 = stepD xr dr pr) :
    Calls Try.prog 89 #[.pointer (some ⟨gr, 0, none⟩)] W fun e W' => e = .returned (.tuple #[.int .i64 ea, .int .i64 eb]) ∧ ∃ va' vt' sp', (1 ≤ xr1.stage → xr1.stage ≤ 4 → sp' = strOfNums pr) ∧ LivW w W' gl g gr gx x d pb xr1 sp' dr1 va' vt' Ps := by
  obtain rfl : ea = (stepV xr).1 := congrArg Prod.fst he
  obtain rfl : eb = (stepV xr).2 := congrArg Prod.snd he
  subst hx hd
  obtain ⟨vl, vb, h1, h⟩ := livw_ref h
  refine (RlStep_any h ho (by omega) ha hst hg pr hsp hp).mono ?_
  rintro e W' ⟨rfl, va', vt', sp', h2, h⟩
  exact ⟨rfl, va', vt', sp', h2, livw_back h1 h⟩
theorem Begin_e (h : LivW w W gl g gr gx x d pb xr sp dr va vt Ps) (A : Option Addr) (c : Nat) (L : List (List Int)) (h0 : BL.C w A L.length L) (hL : L.length ≤ 5) (hp : ∀ p ∈ L, p.length ≤ 1000)
    {ea : Int} (he : ea = begE x d L) (hx : x1 = begL x d L) (hpb : pb1 = begP x d pb L) :
    Calls Try.prog 48 #[.pointer (some ⟨gl, 0, none⟩), .slice A L.length c] W fun e W' => e = .returned (.int .i64 ea) ∧ LivW w W' gl g gr gx x1 d pb1 xr sp dr va vt Ps := by
  subst he hx hpb
  exact Begin_s h A L.length c L rfl (Kd.C_below h0 h.below) (by omega) (fun p hpp => Nat.le_trans (hp p hpp) (by omega))
theorem texts_e (h : LivW w W gl g gr gx x d pb xr sp dr va vt Ps) (A : Option Addr) (c : Nat) (L : List (List Int)) (h0 : BL.C w A L.length L) (hL : L.length ≤ 5) :
    Calls Try.prog 88 #[.slice A L.length c] W fun e W' => ∃ A' c', e = .returned (.slice A' L.length c') ∧ LivW w W' gl g gr gx x d pb xr sp dr va vt (RawT 1 9 (.slice A' L.length c') (strsR L) :: Ps) := by
  have hb := h.below
  obtain ⟨vl, vb, h1, h2⟩ := h
  refine (texts_here h2 A c L (Kd.C_below h0 hb) (by omega)).mono ?_
  rintro e W' ⟨A', c', rfl, h3, _⟩
  exact ⟨A', c', rfl, vl, vb, h1, Here.down7 h3⟩
theorem RlBegin_e (A : Option Addr) (c : Nat) (L : List (List Int)) (h : LivW w W gl g gr gx x d pb xr sp dr va vt (RawT 1 9 (.slice A L.length c) (strsR L) :: Ps)) (ho : dr.Ok) (hL : L.length ≤ 5) (hp : ∀ p ∈ L, p.length ≤ 1000) (hB : ∀ p ∈ L, Byt p)
    {ea : Int} (he : ea = begE xr dr L) (hx : xr1 = begL xr dr L) :
    Calls Try.prog 87 #[.pointer (some ⟨gr, 0, none⟩), .slice A L.length c] W fun e W' => e = .returned (.int .i64 ea) ∧ ∃ sp', (begE xr dr L = 0 → sp' = txtP L) ∧ (begE xr dr L ≠ 0 → sp' = sp) ∧
      LivW w W' gl g gr gx x d pb xr1 sp' dr va vt (RawT 1 9 (.slice A L.length c) (strsR L) :: Ps) := by
  subst he hx
  obtain ⟨vl, vb, h1, h⟩ := h
  have h2 : RlH w W gr gx xr sp dr va vt (RawT 1 9 (.slice A L.length c) (strsR L) :: LogT gl g x vl :: DiskT g d :: BytesT vb pb :: Ps) := Here.down4 (Here.nth h 7 (by simp) |>.perm (by
    refine List.Perm.cons _ ?_
    exact (List.perm_append_comm (l₁ := [LogT gl g x vl, DiskT g d, BytesT vb pb]) (l₂ := [CellsT gr (rlC gx xr sp) 101, CellsT gx (refC dr va vt) 125, RawT 1 3 va (atsR dr.q), RawT 1 9 vt (txtR dr.q)])).append_right Ps))
  refine (RlBegin_any A c L h2 ho hL hp hB).mono ?_
  rintro e W' ⟨rfl, sp', h3, h4, h5⟩
  exact ⟨rfl, sp', h3, h4, vl, vb, h1, Here.pick53 h5⟩
theorem Crash_e (h : LivW w W gl g gr gx x d pb xr sp dr va vt Ps) (hq : d.q.length ≤ 998000) (la : Int) (hd : d1 = d.settle la) :
    Calls Try.prog 22 #[.pointer (some ⟨g, 0, none⟩), .int .i64 la] W fun e W' => e = .returned (.int .i64 0) ∧ LivW w W' gl g gr gx x d1 pb xr sp dr va vt Ps := by
  subst hd
  obtain ⟨vl, vb, h1, h⟩ := h
  refine (Crash_here h.swap (by omega) la).mono ?_
  rintro e W' ⟨rfl, h⟩
  exact ⟨rfl, vl, vb, h1, h.swap⟩
theorem RlCrash_e (h : LivW w W gl g gr gx x d pb xr sp dr va vt Ps) (ho : dr.Ok) (hq : dr.q.length ≤ 998000) (la : Int) (hla : -9223372036854775808 ≤ la ∧ la ≤ 9223372036854775807) (hd : dr1 = dr.settle la) :
    Calls Try.prog 70 #[.pointer (some ⟨gx, 0, none⟩), .int .i64 la] W fun e W' => e = .returned (.tuple #[]) ∧ LivW w W' gl g gr gx x d pb xr sp dr1 (.slice none 0 0) (.slice none 0 0) Ps := by
  subst hd
  obtain ⟨vl, vb, h1, h⟩ := livw_ref h
  refine (RefCrash (fun _ h L hL => RefNow h ho (by omega) L hL) (rl_disk h) la hla).mono ?_
  rintro e W' ⟨rfl, h⟩
  exact ⟨rfl, livw_back h1 (rl_back h)⟩
theorem Open_e (h : LivW w W gl g gr gx x d pb xr sp dr va vt Ps) (hq : d.q.length ≤ 998000) (hB : ByD d) (gen : Int) (area tail : Nat) (L : List Rec) (P R : List (List Int)) (hf : OpensR d gen area tail L P R) (hx : x1 = ⟨gen, area, tail, 0, 0, 0⟩) (hd : d1 = opnD d area tail) :
    Calls Try.prog 40 #[.pointer (some ⟨g, 0, none⟩)] W fun e W' => ∃ gl' Ap cp Ar cr Qs, e = .returned (.tuple #[.pointer (some ⟨gl', 0, none⟩), .slice Ap P.length cp, .slice Ar R.length cr, .int .i64 0]) ∧
      LivW w W' gl' g gr gx x1 d1 [] xr sp dr va vt (TwoT (.slice Ap P.length cp) P (.slice Ar R.length cr) R :: Qs) := by
  subst hx hd
  obtain ⟨vl, vb, h1, h⟩ := h
  refine (Open_opens h.swap (by omega) hB gen area tail L P R hf).mono ?_
  rintro e W' ⟨gl', vp, vr, rfl, h⟩
  obtain ⟨Ap, cp, Ar, cr, rfl, rfl, _, _⟩ := (Here.nth h 2 (by simp)).two
  refine ⟨gl', Ap, cp, Ar, cr, LogT gl g x vl :: BytesT vb pb :: Ps, rfl, .slice none 0 0, .slice none 0 0, fun _ => rfl, (h.addNil.perm ?_)⟩
  refine (List.Perm.swap _ _ _).trans (List.Perm.cons _ ((List.Perm.swap _ _ _).trans (List.Perm.cons _ (List.Perm.cons _ ?_))))
  exact (List.perm_append_comm (l₁ := [TwoT (.slice Ap P.length cp) P (.slice Ar R.length cr) R, LogT gl g x vl, BytesT vb pb]) (l₂ := [CellsT gr (rlC gx xr sp) 101, CellsT gx (refC dr va vt) 125, RawT 1 3 va (atsR dr.q), RawT 1 9 vt (txtR dr.q)])).append_right Ps
theorem RlOpen_e {T : Thing} (h : LivW w W gl g gr gx x d pb xr sp dr va vt (T :: Ps)) (ho : dr.Ok) (hq : dr.q.length ≤ 998000) (hB : ByD dr) (gen : Int) (area tail : Nat) (L : List Rec) (P R : List (List Int)) (hf : OpensR dr gen area tail L P R) (hx : xr1 = ⟨gen, area, tail, 0, 0, 0⟩) (hd : dr1 = opnD dr area tail) :
    Calls Try.prog 41 #[.pointer (some ⟨gx, 0, none⟩)] W fun e W' => ∃ gr' Ap cp Ar cr va' vt' Qs, e = .returned (.tuple #[.pointer (some ⟨gr', 0, none⟩), .slice Ap P.length cp, .slice Ar R.length cr, .int .i64 0]) ∧
      LivW w W' gl g gr' gx x d pb xr1 ⟨#[]⟩ dr1 va' vt' (RawT 1 9 (.slice Ap P.length cp) (strsR P) :: RawT 1 9 (.slice Ar R.length cr) (strsR R) :: T :: Qs) := by
  subst hx hd
  obtain ⟨vl, vb, h1, h⟩ := livw_ref h
  refine (RefOpen_opens (rl_disk h) ho (by omega) hB gen area tail L P R hf).mono ?_
  rintro e W' ⟨gr', vp, vr, va', vt', rfl, h⟩
  obtain ⟨Ap, cp, rfl⟩ := (Here.nth h 4 (by simp)).textv
  obtain ⟨Ar, cr, rfl⟩ := (Here.nth h 5 (by simp)).textv
  refine ⟨gr', Ap, cp, Ar, cr, va', vt', CellsT gr (rlC gx xr sp) 101 :: Ps, rfl, vl, vb, h1, h.perm ?_⟩
  exact ((List.perm_append_comm (l₁ := [CellsT gr' (rlC gx ⟨gen, area, tail, 0, 0, 0⟩ ⟨#[]⟩) 101, CellsT gx (refC (opnD dr area tail) va' vt') 125, RawT 1 3 va' (atsR (opnD dr area tail).q), RawT 1 9 vt' (txtR (opnD dr area tail).q), RawT 1 9 (.slice Ap P.length cp) (strsR P), RawT 1 9 (.slice Ar R.length cr) (strsR R), CellsT gr (rlC gx xr sp) 101]) (l₂ := [LogT gl g x vl, DiskT g d, BytesT vb pb])).append_right (T :: Ps)).trans
    (List.Perm.append_left [LogT gl g x vl, DiskT g d, BytesT vb pb, CellsT gr' (rlC gx ⟨gen, area, tail, 0, 0, 0⟩ ⟨#[]⟩) 101, CellsT gx (refC (opnD dr area tail) va' vt') 125, RawT 1 3 va' (atsR (opnD dr area tail).q), RawT 1 9 vt' (txtR (opnD dr area tail).q), RawT 1 9 (.slice Ap P.length cp) (strsR P), RawT 1 9 (.slice Ar R.length cr) (strsR R)] (List.Perm.swap _ _ _))
theorem same_at {A B : Option Addr} {na nb ca cb : Nat} {L : List (List Int)} (ha : (Kd.raw 1).C W A L.length (strsR L)) (hb : BL.C W B L.length L) (h1 : na = L.length) (h2 : nb = L.length) :
    Calls Try.prog 42 #[.slice A na ca, .slice B nb cb] W fun e w' => e = .returned (.bool true) ∧ Below W.heap.size W w' := by
  subst h1 h2
  exact same_yes A B ca cb L W ha hb
theorem same1_e {A B A' B' : Option Addr} {c c' e e' : Nat} {P R : List (List Int)} (h : LivW w W gl g gr gx x d pb xr sp dr va vt (RawT 1 9 (.slice A P.length c) (strsR P) :: RawT 1 9 (.slice B R.length e) (strsR R) :: TwoT (.slice A' P.length c') P (.slice B' R.length e') R :: Ps)) :
    Calls Try.prog 42 #[.slice A P.length c, .slice A' P.length c'] W fun e1 w' => e1 = .returned (.bool true) ∧ LivW w w' gl g gr gx x d pb xr sp dr va vt (RawT 1 9 (.slice A P.length c) (strsR P) :: RawT 1 9 (.slice B R.length e) (strsR R) :: TwoT (.slice A' P.length c') P (.slice B' R.length e') R :: Ps) := by
  obtain ⟨vl, vb, h1, h2⟩ := h
  obtain ⟨_, _, _, _, e1, e2, KP, KR⟩ := (Here.nth h2 9 (by simp)).two
  injection e1 with e1 _ _
  subst e1
  have hr := raw_of (Here.nth h2 7 (by simp))
  rw [strsR_len] at hr
  refine (same_at hr KP rfl rfl).mono ?_
  rintro e0 w' ⟨rfl, hb⟩
  exact ⟨rfl, vl, vb, h1, h2.then_ hb⟩
theorem same2_e {A B A' B' : Option Addr} {c c' e e' : Nat} {P R : List (List Int)} (h : LivW w W gl g gr gx x d pb xr sp dr va vt (RawT 1 9 (.slice A P.length c) (strsR P) :: RawT 1 9 (.slice B R.length e) (strsR R) :: TwoT (.slice A' P.length c') P (.slice B' R.length e') R :: Ps)) :
    Calls Try.prog 42 #[.slice B R.length e, .slice B' R.length e'] W fun e1 w' => e1 = .returned (.bool true) ∧ LivW w w' gl g gr gx x d pb xr sp dr va vt (RawT 1 9 (.slice A P.length c) (strsR P) :: RawT 1 9 (.slice B R.length e) (strsR R) :: TwoT (.slice A' P.length c') P (.slice B' R.length e') R :: Ps) := by
  obtain ⟨vl, vb, h1, h2⟩ := h
  obtain ⟨_, _, _, _, e1, e2, KP, KR⟩ := (Here.nth h2 9 (by simp)).two
  injection e2 with e2 _ _
  subst e2
  have hr := raw_of (Here.nth h2 8 (by simp))
  rw [strsR_len] at hr
  refine (same_at hr KR rfl rfl).mono ?_
  rintro e0 w' ⟨rfl, hb⟩
  exact ⟨rfl, vl, vb, h1, h2.then_ hb⟩
end
theorem appL_stage (x : Lg) (d : Dm) (b : List Int) : (appL x d b).stage = x.stage := by
  unfold appL
  split <;> rfl
end Go.Proofs.Ytmbemlpmfklddaa.Own
