/- Orders, as Lean data, and how cells stand for them. -/
import Derived.Test.YtoadfmgnpmcbfaaGreatApiT
set_option linter.unusedVariables false
namespace Go.Fk
open Go
structure OrderD where
  From : Int
  Person : Int
  Dest : Int
  Class : Int
  After : Int
  By : Int
  Crowd : Int
  Pay : Int
  Against : List Int
  Back : Bool
  Else : Int
  deriving DecidableEq
instance : Inhabited OrderD := ⟨⟨0, 0, 0, 0, 0, 0, 0, 0, [], false, 0⟩⟩
def OrderD.cs (x : OrderD) (v0 : Value) : List Value := [.int .i64 x.From, .int .i64 x.Person, .int .i64 x.Dest, .int .i64 x.Class, .int .i64 x.After, .int .i64 x.By, .int .i64 x.Crowd, .int .i64 x.Pay, v0, .bool x.Back, .int .i64 x.Else]
instance : Enc OrderD where
  n := 11
  rep w cs x := ∃ v0, cs = x.cs v0 ∧ I64 x.From ∧ I64 x.Person ∧ I64 x.Dest ∧ I64 x.Class ∧ I64 x.After ∧ I64 x.By ∧ I64 x.Crowd ∧ I64 x.Pay ∧ Sl w v0 x.Against ∧ I64 x.Else
  len _ _ _ h := by obtain ⟨v0, rfl, _⟩ := h; rfl
  ext _ _ _ _ hx h := by
    obtain ⟨v0, rfl, h0, h1, h2, h3, h4, h5, h6, h7, h8, h9⟩ := h
    exact ⟨v0, rfl, h0, h1, h2, h3, h4, h5, h6, h7, h8.ext hx, h9⟩
theorem Sl.orderD {w : World} {v : Value} {xs : List OrderD} (h : Sl w v xs) {i : Nat} (hi : i < xs.length) :
    ∃ u0, AtN w ((slAt v).add (i * 11)) 0 (xs[i].cs u0) ∧ At w ((slAt v).add (i * 11)) (xs[i].cs u0) ∧ I64 xs[i].From ∧ I64 xs[i].Person ∧ I64 xs[i].Dest ∧ I64 xs[i].Class ∧ I64 xs[i].After ∧ I64 xs[i].By ∧ I64 xs[i].Crowd ∧ I64 xs[i].Pay ∧ Sl w u0 xs[i].Against ∧ I64 xs[i].Else := by
  obtain ⟨cs, ⟨v0, rfl, h1⟩, ha⟩ := h.at_ i hi
  exact ⟨v0, ha.n, ha, h1⟩

/-- an order's numbers, and its list -/
structure OrdR (w : World) (x : OrderD) (v0 : Value) : Prop where
  i0 : I64 x.From
  i1 : I64 x.Person
  i2 : I64 x.Dest
  i3 : I64 x.Class
  i4 : I64 x.After
  i5 : I64 x.By
  i6 : I64 x.Crowd
  i7 : I64 x.Pay
  g : Sl w v0 x.Against
  i8 : I64 x.Else
theorem OrdR.ext {w w' : World} {x : OrderD} {v0 : Value} (h : OrdR w x v0) (hx : Ext w w') : OrdR w' x v0 := ⟨h.i0, h.i1, h.i2, h.i3, h.i4, h.i5, h.i6, h.i7, h.g.ext hx, h.i8⟩
theorem OrdR.one {w : World} {x : OrderD} {v0 : Value} (h : OrdR w x v0) : (x.cs v0).all Value.oneCell' = true := by
  have h0 := isS_o h.g.s
  simp only [OrderD.cs, List.all_cons, List.all_nil, h0]; rfl
theorem OrdR.rep {w : World} {x : OrderD} {v0 : Value} (h : OrdR w x v0) : Enc.rep w (x.cs v0) x := ⟨v0, rfl, h.i0, h.i1, h.i2, h.i3, h.i4, h.i5, h.i6, h.i7, h.g, h.i8⟩
theorem Sl.ord {w : World} {v : Value} {xs : List OrderD} (h : Sl w v xs) {i : Nat} (hi : i < xs.length) :
    ∃ v0, AtN w ((slAt v).add (i * 11)) 0 (xs[i].cs v0) ∧ At w ((slAt v).add (i * 11)) (xs[i].cs v0) ∧ OrdR w xs[i] v0 := by
  obtain ⟨v0, h1, h2, h3, h4, h5, h6, h7, h8, h9, h10, h11, h12⟩ := h.orderD hi
  exact ⟨v0, h1, h2, h3, h4, h5, h6, h7, h8, h9, h10, h11, h12⟩
end Go.Fk
