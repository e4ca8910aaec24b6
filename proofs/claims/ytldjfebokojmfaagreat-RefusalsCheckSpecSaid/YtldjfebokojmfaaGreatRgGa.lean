import Derived.Test.YtldjfebokojmfaaGreatRgFk
namespace Go.Fk
open Go
structure Rule where
  First : Int
  Until : Int
  Every : Int
  deriving DecidableEq
structure Gap where
  From : Int
  Until : Int
  deriving DecidableEq
instance : Inhabited Rule := ⟨⟨0, 0, 0⟩⟩
instance : Inhabited Gap := ⟨⟨0, 0⟩⟩
def Rule.cs (r : Rule) : List Value := [.int .i64 r.First, .int .i64 r.Until, .int .i64 r.Every]
def Gap.cs (g : Gap) : List Value := [.int .i64 g.From, .int .i64 g.Until]
instance : Enc Rule where
  n := 3
  rep _ cs r := cs = r.cs ∧ I64 r.First ∧ I64 r.Until ∧ I64 r.Every
  len _ _ _ h := by rw [h.1]; rfl
  ext _ _ _ _ _ h := h
instance : Enc Gap where
  n := 2
  rep _ cs r := cs = r.cs ∧ I64 r.From ∧ I64 r.Until
  len _ _ _ h := by rw [h.1]; rfl
  ext _ _ _ _ _ h := h
instance : Flat Rule := ⟨fun _ _ _ _ h => h, fun _ _ _ h => by rw [h.1]; rfl⟩
instance : Flat Gap := ⟨fun _ _ _ _ h => h, fun _ _ _ h => by rw [h.1]; rfl⟩
theorem Sl.rule {w : World} {v : Value} {xs : List Rule} (h : Sl w v xs) {i : Nat} (hi : i < xs.length) :
    AtN w ((slAt v).add (i * 3)) 0 xs[i].cs ∧ I64 xs[i].First ∧ I64 xs[i].Until ∧ I64 xs[i].Every := by
  obtain ⟨cs, ⟨rfl, h1⟩, ha⟩ := h.at_ i hi
  exact ⟨ha.n, h1⟩
theorem Sl.gap {w : World} {v : Value} {xs : List Gap} (h : Sl w v xs) {i : Nat} (hi : i < xs.length) :
    AtN w ((slAt v).add (i * 2)) 0 xs[i].cs ∧ I64 xs[i].From ∧ I64 xs[i].Until := by
  obtain ⟨cs, ⟨rfl, h1⟩, ha⟩ := h.at_ i hi
  exact ⟨ha.n, h1⟩
end Go.Fk
set_option linter.unusedVariables false
namespace Go.Fk
open Go
structure TierD where
  From : Int
  Extra : Int
  deriving DecidableEq
instance : Inhabited TierD := ⟨⟨0, 0⟩⟩
def TierD.cs (x : TierD) : List Value := [.int .i64 x.From, .int .i64 x.Extra]
instance : Enc TierD where
  n := 2
  rep _ cs x := cs = x.cs ∧ I64 x.From ∧ I64 x.Extra
  len _ _ _ h := by rw [h.1]; rfl
  ext _ _ _ _ _ h := h
instance : Flat TierD := ⟨fun _ _ _ _ h => h, fun _ _ _ h => by rw [h.1]; rfl⟩
theorem Sl.tierD {w : World} {v : Value} {xs : List TierD} (h : Sl w v xs) {i : Nat} (hi : i < xs.length) :
    AtN w ((slAt v).add (i * 2)) 0 xs[i].cs ∧ I64 xs[i].From ∧ I64 xs[i].Extra := by
  obtain ⟨cs, ⟨rfl, h1⟩, ha⟩ := h.at_ i hi
  exact ⟨ha.n, h1⟩
structure RunD where
  Line : Int
  At : Int
  Arrive : Int
  deriving DecidableEq
instance : Inhabited RunD := ⟨⟨0, 0, 0⟩⟩
def RunD.cs (x : RunD) : List Value := [.int .i64 x.Line, .int .i64 x.At, .int .i64 x.Arrive]
instance : Enc RunD where
  n := 3
  rep _ cs x := cs = x.cs ∧ I64 x.Line ∧ I64 x.At ∧ I64 x.Arrive
  len _ _ _ h := by rw [h.1]; rfl
  ext _ _ _ _ _ h := h
instance : Flat RunD := ⟨fun _ _ _ _ h => h, fun _ _ _ h => by rw [h.1]; rfl⟩
theorem Sl.runD {w : World} {v : Value} {xs : List RunD} (h : Sl w v xs) {i : Nat} (hi : i < xs.length) :
    AtN w ((slAt v).add (i * 3)) 0 xs[i].cs ∧ I64 xs[i].Line ∧ I64 xs[i].At ∧ I64 xs[i].Arrive := by
  obtain ⟨cs, ⟨rfl, h1⟩, ha⟩ := h.at_ i hi
  exact ⟨ha.n, h1⟩
structure LineD where
  Offices : List Int
  Legs : List Int
  Classes : Int
  Room : Int
  Rules : List Rule
  Off : List Gap
  deriving DecidableEq
instance : Inhabited LineD := ⟨⟨[], [], 0, 0, [], []⟩⟩
def LineD.cs (x : LineD) (v0 v1 v2 v3 : Value) : List Value := [v0, v1, .int .i64 x.Classes, .int .i64 x.Room, v2, v3]
instance : Enc LineD where
  n := 6
  rep w cs x := ∃ v0 v1 v2 v3, cs = x.cs v0 v1 v2 v3 ∧ Sl w v0 x.Offices ∧ Sl w v1 x.Legs ∧ I64 x.Classes ∧ I64 x.Room ∧ Sl w v2 x.Rules ∧ Sl w v3 x.Off
  len _ _ _ h := by obtain ⟨v0, v1, v2, v3, rfl, _⟩ := h; rfl
  ext _ _ _ _ hx h := by
    obtain ⟨v0, v1, v2, v3, rfl, h0, h1, h2, h3, h4, h5⟩ := h
    exact ⟨v0, v1, v2, v3, rfl, h0.ext hx, h1.ext hx, h2, h3, h4.ext hx, h5.ext hx⟩
theorem Sl.lineD {w : World} {v : Value} {xs : List LineD} (h : Sl w v xs) {i : Nat} (hi : i < xs.length) :
    ∃ u0 u1 u2 u3, AtN w ((slAt v).add (i * 6)) 0 (xs[i].cs u0 u1 u2 u3) ∧ At w ((slAt v).add (i * 6)) (xs[i].cs u0 u1 u2 u3) ∧ Sl w u0 xs[i].Offices ∧ Sl w u1 xs[i].Legs ∧ I64 xs[i].Classes ∧ I64 xs[i].Room ∧ Sl w u2 xs[i].Rules ∧ Sl w u3 xs[i].Off := by
  obtain ⟨cs, ⟨v0, v1, v2, v3, rfl, h1⟩, ha⟩ := h.at_ i hi
  exact ⟨v0, v1, v2, v3, ha.n, ha, h1⟩
structure TimeD where
  Offices : Int
  Lines : List LineD
  deriving DecidableEq
instance : Inhabited TimeD := ⟨⟨0, []⟩⟩
def TimeD.cs (x : TimeD) (v0 : Value) : List Value := [.int .i64 x.Offices, v0]
instance : Enc TimeD where
  n := 2
  rep w cs x := ∃ v0, cs = x.cs v0 ∧ I64 x.Offices ∧ Sl w v0 x.Lines
  len _ _ _ h := by obtain ⟨v0, rfl, _⟩ := h; rfl
  ext _ _ _ _ hx h := by
    obtain ⟨v0, rfl, h0, h1⟩ := h
    exact ⟨v0, rfl, h0, h1.ext hx⟩
structure TariffD where
  Base : List Int
  Leg : List Int
  Tiers : List TierD
  deriving DecidableEq
instance : Inhabited TariffD := ⟨⟨[], [], []⟩⟩
def TariffD.cs (x : TariffD) (v0 v1 v2 : Value) : List Value := [v0, v1, v2]
instance : Enc TariffD where
  n := 3
  rep w cs x := ∃ v0 v1 v2, cs = x.cs v0 v1 v2 ∧ Sl w v0 x.Base ∧ Sl w v1 x.Leg ∧ Sl w v2 x.Tiers
  len _ _ _ h := by obtain ⟨v0, v1, v2, rfl, _⟩ := h; rfl
  ext _ _ _ _ hx h := by
    obtain ⟨v0, v1, v2, rfl, h0, h1, h2⟩ := h
    exact ⟨v0, v1, v2, rfl, h0.ext hx, h1.ext hx, h2.ext hx⟩
structure PlanD where
  Runs : List RunD
  Of : List Int
  Covers : List Int
  deriving DecidableEq
instance : Inhabited PlanD := ⟨⟨[], [], []⟩⟩
def PlanD.cs (x : PlanD) (v0 v1 v2 : Value) : List Value := [v0, v1, v2]
instance : Enc PlanD where
  n := 3
  rep w cs x := ∃ v0 v1 v2, cs = x.cs v0 v1 v2 ∧ Sl w v0 x.Runs ∧ Sl w v1 x.Of ∧ Sl w v2 x.Covers
  len _ _ _ h := by obtain ⟨v0, v1, v2, rfl, _⟩ := h; rfl
  ext _ _ _ _ hx h := by
    obtain ⟨v0, v1, v2, rfl, h0, h1, h2⟩ := h
    exact ⟨v0, v1, v2, rfl, h0.ext hx, h1.ext hx, h2.ext hx⟩
theorem isS_o {v : Value} (h : IsS v) : v.oneCell' = true := by
  rcases h.ex with rfl | ⟨a, n, c, rfl⟩ <;> rfl
structure LineR (w : World) (x : LineD) (v0 v1 v2 v3 : Value) : Prop where
  o : Sl w v0 x.Offices
  l : Sl w v1 x.Legs
  c : I64 x.Classes
  m : I64 x.Room
  r : Sl w v2 x.Rules
  g : Sl w v3 x.Off
theorem LineR.ext {w w' : World} {x : LineD} {v0 v1 v2 v3 : Value} (h : LineR w x v0 v1 v2 v3) (hx : Ext w w') : LineR w' x v0 v1 v2 v3 := ⟨h.o.ext hx, h.l.ext hx, h.c, h.m, h.r.ext hx, h.g.ext hx⟩
theorem LineR.one {w : World} {x : LineD} {v0 v1 v2 v3 : Value} (h : LineR w x v0 v1 v2 v3) : (x.cs v0 v1 v2 v3).all Value.oneCell' = true := by
  have h0 := isS_o h.o.s
  have h1 := isS_o h.l.s
  have h2 := isS_o h.r.s
  have h3 := isS_o h.g.s
  simp only [LineD.cs, List.all_cons, List.all_nil, h0, h1, h2, h3]; rfl
theorem LineR.rep {w : World} {x : LineD} {v0 v1 v2 v3 : Value} (h : LineR w x v0 v1 v2 v3) : Enc.rep w (x.cs v0 v1 v2 v3) x := ⟨v0, v1, v2, v3, rfl, h.o, h.l, h.c, h.m, h.r, h.g⟩
theorem Sl.line {w : World} {v : Value} {xs : List LineD} (h : Sl w v xs) {i : Nat} (hi : i < xs.length) :
    ∃ v0 v1 v2 v3, AtN w ((slAt v).add (i * 6)) 0 (xs[i].cs v0 v1 v2 v3) ∧ At w ((slAt v).add (i * 6)) (xs[i].cs v0 v1 v2 v3) ∧ LineR w xs[i] v0 v1 v2 v3 := by
  obtain ⟨v0, v1, v2, v3, h1, h2, h3, h4, h5, h6, h7, h8⟩ := h.lineD hi
  exact ⟨v0, v1, v2, v3, h1, h2, h3, h4, h5, h6, h7, h8⟩
structure TarR (w : World) (x : TariffD) (v0 v1 v2 : Value) : Prop where
  b : Sl w v0 x.Base
  l : Sl w v1 x.Leg
  t : Sl w v2 x.Tiers
theorem TarR.ext {w w' : World} {x : TariffD} {v0 v1 v2 : Value} (h : TarR w x v0 v1 v2) (hx : Ext w w') : TarR w' x v0 v1 v2 := ⟨h.b.ext hx, h.l.ext hx, h.t.ext hx⟩
structure PlanR (w : World) (x : PlanD) (v0 v1 v2 : Value) : Prop where
  r : Sl w v0 x.Runs
  o : Sl w v1 x.Of
  c : Sl w v2 x.Covers
theorem PlanR.ext {w w' : World} {x : PlanD} {v0 v1 v2 : Value} (h : PlanR w x v0 v1 v2) (hx : Ext w w') : PlanR w' x v0 v1 v2 := ⟨h.r.ext hx, h.o.ext hx, h.c.ext hx⟩
end Go.Fk
set_option linter.unusedVariables false
namespace Go.Fk
open Go
structure OrderD where
  From : Int
  Person : Int
  Dest : Int
  Class : Int
  After : Int
  By : Int
  Crowd : Int
  Pay : Int
  Against : List Int
  Back : Bool
  Else : Int
  deriving DecidableEq
instance : Inhabited OrderD := ⟨⟨0, 0, 0, 0, 0, 0, 0, 0, [], false, 0⟩⟩
def OrderD.cs (x : OrderD) (v0 : Value) : List Value := [.int .i64 x.From, .int .i64 x.Person, .int .i64 x.Dest, .int .i64 x.Class, .int .i64 x.After, .int .i64 x.By, .int .i64 x.Crowd, .int .i64 x.Pay, v0, .bool x.Back, .int .i64 x.Else]
instance : Enc OrderD where
  n := 11
  rep w cs x := ∃ v0, cs = x.cs v0 ∧ I64 x.From ∧ I64 x.Person ∧ I64 x.Dest ∧ I64 x.Class ∧ I64 x.After ∧ I64 x.By ∧ I64 x.Crowd ∧ I64 x.Pay ∧ Sl w v0 x.Against ∧ I64 x.Else
  len _ _ _ h := by obtain ⟨v0, rfl, _⟩ := h; rfl
  ext _ _ _ _ hx h := by
    obtain ⟨v0, rfl, h0, h1, h2, h3, h4, h5, h6, h7, h8, h9⟩ := h
    exact ⟨v0, rfl, h0, h1, h2, h3, h4, h5, h6, h7, h8.ext hx, h9⟩
theorem Sl.orderD {w : World} {v : Value} {xs : List OrderD} (h : Sl w v xs) {i : Nat} (hi : i < xs.length) :
    ∃ u0, AtN w ((slAt v).add (i * 11)) 0 (xs[i].cs u0) ∧ At w ((slAt v).add (i * 11)) (xs[i].cs u0) ∧ I64 xs[i].From ∧ I64 xs[i].Person ∧ I64 xs[i].Dest ∧ I64 xs[i].Class ∧ I64 xs[i].After ∧ I64 xs[i].By ∧ I64 xs[i].Crowd ∧ I64 xs[i].Pay ∧ Sl w u0 xs[i].Against ∧ I64 xs[i].Else := by
  obtain ⟨cs, ⟨v0, rfl, h1⟩, ha⟩ := h.at_ i hi
  exact ⟨v0, ha.n, ha, h1⟩
structure OrdR (w : World) (x : OrderD) (v0 : Value) : Prop where
  i0 : I64 x.From
  i1 : I64 x.Person
  i2 : I64 x.Dest
  i3 : I64 x.Class
  i4 : I64 x.After
  i5 : I64 x.By
  i6 : I64 x.Crowd
  i7 : I64 x.Pay
  g : Sl w v0 x.Against
  i8 : I64 x.Else
theorem OrdR.ext {w w' : World} {x : OrderD} {v0 : Value} (h : OrdR w x v0) (hx : Ext w w') : OrdR w' x v0 := ⟨h.i0, h.i1, h.i2, h.i3, h.i4, h.i5, h.i6, h.i7, h.g.ext hx, h.i8⟩
theorem OrdR.one {w : World} {x : OrderD} {v0 : Value} (h : OrdR w x v0) : (x.cs v0).all Value.oneCell' = true := by
  have h0 := isS_o h.g.s
  simp only [OrderD.cs, List.all_cons, List.all_nil, h0]; rfl
theorem OrdR.rep {w : World} {x : OrderD} {v0 : Value} (h : OrdR w x v0) : Enc.rep w (x.cs v0) x := ⟨v0, rfl, h.i0, h.i1, h.i2, h.i3, h.i4, h.i5, h.i6, h.i7, h.g, h.i8⟩
theorem Sl.ord {w : World} {v : Value} {xs : List OrderD} (h : Sl w v xs) {i : Nat} (hi : i < xs.length) :
    ∃ v0, AtN w ((slAt v).add (i * 11)) 0 (xs[i].cs v0) ∧ At w ((slAt v).add (i * 11)) (xs[i].cs v0) ∧ OrdR w xs[i] v0 := by
  obtain ⟨v0, h1, h2, h3, h4, h5, h6, h7, h8, h9, h10, h11, h12⟩ := h.orderD hi
  exact ⟨v0, h1, h2, h3, h4, h5, h6, h7, h8, h9, h10, h11, h12⟩
structure MoveD where
  No : Int
  From : Int
  To : Int
  Amount : Int
  Why : Int
  Run : Int
  deriving DecidableEq
instance : Inhabited MoveD := ⟨⟨0, 0, 0, 0, 0, 0⟩⟩
def MoveD.cs (x : MoveD) : List Value := [.int .i64 x.No, .int .i64 x.From, .int .i64 x.To, .int .i64 x.Amount, .int .i64 x.Why, .int .i64 x.Run]
instance : Enc MoveD where
  n := 6
  rep _ cs x := cs = x.cs ∧ I64 x.No ∧ I64 x.From ∧ I64 x.To ∧ I64 x.Amount ∧ I64 x.Why ∧ I64 x.Run
  len _ _ _ h := by rw [h.1]; rfl
  ext _ _ _ _ _ h := h
instance : Flat MoveD := ⟨fun _ _ _ _ h => h, fun _ _ _ h => by rw [h.1]; rfl⟩
abbrev ints (l : List Int) : List Value := l.map (Value.int .i64)
end Go.Fk
