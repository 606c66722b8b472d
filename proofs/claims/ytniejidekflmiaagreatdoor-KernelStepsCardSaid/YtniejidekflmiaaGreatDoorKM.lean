/- Plain: the kernel, tick by tick. -/
import Derived.Test.YtniejidekflmiaaGreatDoorProg
import Derived.Test.YtniejidekflmiaaGreatDoorTskZ
import Init
namespace Go.Proofs.YtniejidekflmiaaGreatDoor

/-- a task's state -/
structure St where
  pend : Bool
  start : Bool
  mid : Bool
  arr : Int
deriving DecidableEq
def St.zero : St := ⟨false, false, false, 0⟩
/-- a job -/
structure Jb where
  r : List Int
  d : List Int
  k : Nat
  n : Int
  how : Int
deriving DecidableEq
structure Ev where
  tick : Int
  kind : Int
  task : Int
  n : Int
deriving DecidableEq
structure Inp where
  arrive : Nat
  dems : List (List Int)
  touch : Nat
structure KS where
  t : Int
  ran : Int
  last : Int
  jobs : List Jb
  tab : List St
  had : List Nat
  load : List Int
  own : List Int
  pol : List Int
  evs : List Ev
def Jb.zero : Jb := ⟨[], [], 0, 0, 2⟩
def demL (d : List Int) (i : Nat) : Int := max 1 (d.getD i 1)
def newJ (r d : List Int) : Jb := ⟨r, (List.range r.length).map (demL d), 0, 0, 0⟩
/-- a tick of a job: which region, how it came out -/
def Jb.step (j : Jb) : Jb × Int × Int :=
  if j.how ≠ 0 then (j, -1, j.how)
  else if j.n + 1 = j.d.getD j.k 0 then
    (if j.k + 1 = j.r.length then ({ j with k := j.k + 1, n := 0, how := 2 }, j.k, 2) else ({ j with k := j.k + 1, n := 0 }, j.k, 1))
  else if j.n + 1 = j.r.getD j.k 0 then ({ j with n := j.n + 1, how := 3 }, j.k, 3)
  else ({ j with n := j.n + 1 }, j.k, 0)
def Jb.mid (j : Jb) : Bool := decide (0 < j.n)

def heldO (own : List Int) (i : Int) : Nat := (List.range 64).foldl (fun x c => if own.getD c 0 = i + 1 then x ||| 2 ^ c else x) 0
def touchO (own : List Int) (i : Int) (sets : Nat) : List Int := own.mapIdx fun c o => if sets.testBit c then i + 1 else o
def lostO (own : List Int) (i : Int) (had : Nat) : Nat := had ^^^ (had &&& heldO own i)

/-- the least of those that are there -/
def minO (l : List (Option Int)) : Option Int := l.foldl (fun o x => match x with
  | none => o
  | some b => match o with
    | none => some b
    | some a => if b < a then some b else some a) none
def St.was (x : St) : Option Int := if x.pend = true then some x.arr else none
/-- the oldest job of those ahead -/
def oldS (tab : List St) : Option Int := minO (tab.map St.was)
def TSet.tk (s : TSet) (i : Nat) : Tsk := s.tasks.getD i ⟨⟨#[]⟩, 0, 0, 0, 0, 0, [], 0, 0⟩
def stAt (tab : List St) (i : Nat) : St := tab.getD i St.zero
def rankS (s : TSet) (tab : List St) (i : Nat) : Int :=
  if (stAt tab i).pend = true then (if (s.tk i).mode = 2 ∧ (stAt tab i).start = true then (s.tk i).theta else i) else -1
def heldS (s : TSet) (tab : List St) (last tick : Int) : Bool :=
  decide (0 ≤ last) && ((stAt tab last.toNat).pend && (stAt tab last.toNat).start &&
    (if (s.tk last.toNat).mode = 0 then (stAt tab last.toNat).mid else if (s.tk last.toNat).mode = 1 then (match oldS (tab.take last.toNat) with | some a => decide (tick < a + (s.tk last.toNat).q) | none => false) else false))
def bestS (s : TSet) (tab : List St) (n : Nat) : Int :=
  (List.range n).foldl (fun b i => if (stAt tab i).pend = true ∧ (b = -1 ∨ rankS s tab i ≤ rankS s tab b.toNat) then (i : Int) else b) (-1)
def chooseS (s : TSet) (tab : List St) (last tick : Int) : Int := if heldS s tab last tick = true then last else bestS s tab tab.length

def KS.tell (k : KS) (kind task n : Int) : KS := { k with evs := k.evs ++ [⟨k.t, kind, task, n⟩] }
def lateB (s : TSet) (k : KS) (i : Nat) : Bool := (stAt k.tab i).pend && decide ((stAt k.tab i).arr + (s.tk i).D = k.t)
def late1 (s : TSet) (k : KS) (i : Nat) : KS := if lateB s k i = true then k.tell 3 i 0 else k
def lateK (s : TSet) (k : KS) : KS := (List.range s.tasks.length).foldl (late1 s) k
def earlyB (s : TSet) (k : KS) (i : Nat) : Bool := decide (0 ≤ k.pol.getD i (-1)) && (decide (k.t < k.pol.getD i (-1)) || decide (k.t - k.pol.getD i (-1) < (s.tk i).T))
def admitK (s : TSet) (x : Inp) (k : KS) (i : Nat) : KS :=
  ({ k with pol := k.pol.set i k.t, tab := k.tab.set i ⟨true, false, false, k.t⟩, jobs := k.jobs.set i (newJ (s.tk i).regs (x.dems.getD i [])) } : KS).tell 1 i 0
def arrive1 (s : TSet) (x : Inp) (k : KS) (i : Nat) : KS :=
  if x.arrive.testBit i = false then k else if earlyB s k i = true then k.tell 2 i 1 else if (stAt k.tab i).pend = true then k.tell 2 i 2 else admitK s x k i
def arriveK (s : TSet) (x : Inp) (k : KS) : KS := (List.range s.tasks.length).foldl (arrive1 s x) k
def preK (s : TSet) (k : KS) (now : Nat) : KS :=
  if 0 ≤ k.last ∧ k.last ≠ now then ({ k with had := k.had.set k.last.toNat (heldO k.own k.last &&& (s.tk k.last.toNat).ucb.toNat) } : KS).tell 5 k.last 0 else k
def popK (n : Nat) : Nat := (List.range 64).countP n.testBit
def turnK (s : TSet) (k : KS) (now : Nat) : KS :=
  let k1 := preK s k now
  if (stAt k.tab now).start = false then ({ k1 with tab := k1.tab.set now { stAt k1.tab now with start := true }, load := k1.load.set now 0 } : KS).tell 4 now 0
  else if k.last ≠ now then
    let lost := lostO k1.own now (k1.had.getD now 0)
    ({ k1 with load := k1.load.set now (s.reload * popK lost), own := touchO k1.own now lost } : KS).tell 6 now (s.reload * popK lost)
  else k1
def runsK (s : TSet) (k : KS) (now : Nat) (touch : Nat) : KS :=
  let k1 : KS := { k with own := touchO k.own now (touch &&& (s.tk now).ecb.toNat) }
  if 0 < k1.load.getD now 0 then { k1 with load := k1.load.set now (k1.load.getD now 0 - 1), tab := k1.tab.set now { stAt k1.tab now with mid := true } }
  else
    let p := (k1.jobs.getD now Jb.zero).step
    let took := k1.t + 1 - (stAt k1.tab now).arr
    let k2 : KS := { k1 with jobs := k1.jobs.set now p.1 }
    let k3 := if p.2.2 = 1 ∨ p.2.2 = 2 then k2.tell 7 now p.2.1 else k2
    if p.2.2 = 2 then { k3.tell 8 now took with tab := k3.tab.set now St.zero, last := -1 }
    else if p.2.2 = 3 then { k3.tell 9 now took with tab := k3.tab.set now St.zero, last := -1 }
    else { k3 with tab := k3.tab.set now { stAt k3.tab now with mid := p.1.mid } }
/-- a tick -/
def stepK (s : TSet) (k : KS) (x : Inp) : KS :=
  let k1 := arriveK s x (lateK s { k with evs := [] })
  let now := chooseS s k1.tab k1.last k1.t
  let k2 := if now = -1 then k1.tell 10 (-1) 0 else runsK s { turnK s k1 now.toNat with last := now } now.toNat x.touch
  { k2 with ran := now, t := k2.t + 1 }
def initK (s : TSet) : KS :=
  ⟨0, -1, -1, List.replicate s.tasks.length Jb.zero, List.replicate s.tasks.length St.zero, List.replicate s.tasks.length 0, List.replicate s.tasks.length 0, List.replicate 64 0, List.replicate s.tasks.length (-1), []⟩
def runK (s : TSet) : List Inp → KS → List Ev × KS
  | [], k => ([], k)
  | x :: l, k => let p := runK s l (stepK s k x); ((stepK s k x).evs ++ p.1, p.2)
def eventsK (s : TSet) (l : List Inp) : List Ev := (runK s l (initK s)).1
end Go.Proofs.YtniejidekflmiaaGreatDoor
