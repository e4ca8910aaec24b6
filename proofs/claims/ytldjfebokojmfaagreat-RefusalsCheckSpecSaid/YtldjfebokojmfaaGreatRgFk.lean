import Derived.WalkKit
import Derived.Deep.Quiet
import Derived.RangeFuncSeq
import Derived.OrdersIn
import Derived.StillTail
import Derived.KernelRfl
set_option linter.unusedSimpArgs false
set_option linter.unusedVariables false
namespace Go.Fk
open Go Go.RowKit
def slLen : Value → Nat | .slice _ n _ => n | _ => 0
def slCap : Value → Nat | .slice _ _ c => c | _ => 0
def slAt : Value → Addr | .slice (some a) _ _ => a | _ => default
def ptOf : Value → Addr | .pointer (some a) => a | _ => default
def bOf : Value → Bool | .bool b => b | _ => false
def iOf : Value → Int | .int _ n => n | _ => 0
def agOf : Value → List Value | .agg cs => cs.toList | _ => []
def tpOf : Value → List Value | .tuple cs => cs.toList | _ => []
@[simp] theorem slLen_mk (a : Option Addr) (n c : Nat) : slLen (.slice a n c) = n := rfl
@[simp] theorem slCap_mk (a : Option Addr) (n c : Nat) : slCap (.slice a n c) = c := rfl
@[simp] theorem slAt_mk (a : Addr) (n c : Nat) : slAt (.slice (some a) n c) = a := rfl
@[simp] theorem ptOf_mk (a : Addr) : ptOf (.pointer (some a)) = a := rfl
@[simp] theorem bOf_mk (b : Bool) : bOf (.bool b) = b := rfl
@[simp] theorem iOf_mk (k : IntKind) (n : Int) : iOf (.int k n) = n := rfl
@[simp] theorem agOf_mk (cs : Array Value) : agOf (.agg cs) = cs.toList := rfl
@[simp] theorem tpOf_mk (cs : Array Value) : tpOf (.tuple cs) = cs.toList := rfl
def IsS (v : Value) : Prop := v = .slice none 0 0 ∨ ∃ a, v = .slice (some a) (slLen v) (slCap v)
def IsP (v : Value) : Prop := v = .pointer (some (ptOf v))
def IsI (k : IntKind) (v : Value) : Prop := v = .int k (iOf v)
def IsB (v : Value) : Prop := v = .bool (bOf v)
def IsA (v : Value) : Prop := v = .agg (agOf v).toArray
def IsT (v : Value) : Prop := v = .tuple (tpOf v).toArray
@[simp] theorem IsS_mk (a : Addr) (n c : Nat) : IsS (.slice (some a) n c) := .inr ⟨a, rfl⟩
@[simp] theorem IsS_nil : IsS (.slice none 0 0) := .inl rfl
@[simp] theorem IsP_mk (a : Addr) : IsP (.pointer (some a)) := rfl
@[simp] theorem IsI_mk (k : IntKind) (n : Int) : IsI k (.int k n) := rfl
@[simp] theorem IsB_mk (b : Bool) : IsB (.bool b) := rfl
@[simp] theorem IsA_mk (cs : Array Value) : IsA (.agg cs) := by simp [IsA]
@[simp] theorem IsT_mk (cs : Array Value) : IsT (.tuple cs) := by simp [IsT]
theorem IsI.ex {k : IntKind} {v : Value} (h : IsI k v) : ∃ n, v = .int k n := ⟨_, h⟩
theorem IsB.ex {v : Value} (h : IsB v) : ∃ n, v = .bool n := ⟨_, h⟩
theorem IsP.ex {v : Value} (h : IsP v) : ∃ n, v = .pointer (some n) := ⟨_, h⟩
theorem IsT.ex {v : Value} (h : IsT v) : ∃ n, v = .tuple n := ⟨_, h⟩
theorem IsA.ex {v : Value} (h : IsA v) : ∃ n, v = .agg n := ⟨_, h⟩
theorem IsS.ex {v : Value} (h : IsS v) : v = .slice none 0 0 ∨ ∃ a n c, v = .slice (some a) n c := by
  rcases h with h | ⟨a, h⟩
  · exact .inl h
  · exact .inr ⟨a, _, _, h⟩
abbrev Ext (w w' : World) : Prop := Below w.heap.size w w'
theorem Ext.refl (w : World) : Ext w w := Below.refl _ _
theorem Ext.trans {a b c : World} (h : Ext a b) (k : Ext b c) : Ext a c := Below.trans h (Below.mono k h.size)
theorem Ext.drew (w : World) : Ext w w.drew := (Below.refl _ _).drew
def mem (w : World) (a : Addr) : Value := (w.cell? a).getD undef
def has1 (w : World) (a : Addr) : Prop := (w.cell? a).isSome = true
def memN (w : World) (a : Addr) : Nat → Nat → List Value
  | _, 0 => []
  | i, n + 1 => mem w (a.add i) :: memN w a (i + 1) n
def hasN (w : World) (a : Addr) : Nat → Nat → Prop
  | _, 0 => True
  | i, n + 1 => has1 w (a.add i) ∧ hasN w a (i + 1) n
theorem has1.cell {w : World} {a : Addr} (h : has1 w a) : w.cell? a = some (mem w a) := by
  unfold has1 at h; unfold mem
  cases hc : w.cell? a with
  | none => rw [hc] at h; cases h
  | some v => rfl
theorem Ext.cell {w w' : World} (h : Ext w w') {a : Addr} (ha : has1 w a) : w'.cell? a = some (mem w a) := by
  rw [Below.cell h (World.block_lt_of_cell? _ _ ha.cell), ha.cell]
theorem Ext.has1 {w w' : World} (h : Ext w w') {a : Addr} (ha : has1 w a) : has1 w' a := by
  unfold Fk.has1; rw [h.cell ha]; rfl
theorem Ext.mem {w w' : World} (h : Ext w w') {a : Addr} (ha : Fk.has1 w a) : mem w' a = mem w a := by
  show (w'.cell? a).getD undef = _; rw [h.cell ha]; rfl
theorem run_memN {P : Program} {w w' : World} (hx : Ext w w') (a : Addr) : ∀ (n i : Nat) (acc : Array Value), hasN w a i n →
    (loadCellsFrom a i n acc).run P w' = .ok (acc ++ (memN w a i n).toArray) w'
  | 0, i, acc, _ => by simp [loadCellsFrom, memN]
  | n + 1, i, acc, h => by
    have h1 := hx.cell h.1
    have ih := run_memN (P := P) hx a n (i + 1) (acc.push (mem w (a.add i))) h.2
    simp only [loadCellsFrom, Sem.run_bind, run_load, h1, Result.andThen_ok, ih]
    simp [memN]
def oneCell (P : Program) (t : TypeId) : Bool := match P.underlying t with | some (.struct _) => false | some (.array _ _) => false | some _ => true | none => false
def manyCell (P : Program) (t : TypeId) : Bool := match P.underlying t with | some (.struct _) => true | some (.array _ _) => true | _ => false
theorem cells_info {P : Program} {t : TypeId} (h : P.cellsOf t ≠ 0) : ∃ i, P.info? t = some i ∧ i.size = P.cellsOf t := by
  unfold Program.cellsOf at *
  cases hi : P.info? t with
  | none => rw [hi] at h; simp at h
  | some i => exact ⟨i, rfl, rfl⟩
def iand (k : IntKind) (a b : Int) : Int := k.wrap ((BitVec.ofInt k.bits a) &&& (BitVec.ofInt k.bits b)).toNat
def ibin (op : BinOp) (k : IntKind) (a b : Int) : Value :=
  match op with
  | .add => .int k (k.wrap (a + b))
  | .sub => .int k (k.wrap (a - b))
  | .mul => .int k (k.wrap (a * b))
  | .quo => .int k (k.wrap (a.tdiv b))
  | .rem => .int k (a.tmod b)
  | .eql => .bool (a == b)
  | .neq => .bool (a != b)
  | .lss => .bool (decide (a < b))
  | .leq => .bool (decide (a ≤ b))
  | .gtr => .bool (decide (b < a))
  | .geq => .bool (decide (b ≤ a))
  | .shl => .int k (k.wrap (a * 2 ^ (min b.toNat k.bits)))
  | .shr => .int k (a.fdiv (2 ^ (min b.toNat k.bits)))
  | .and => .int k (iand k a b)
  | _ => undef
def ibinOk (op : BinOp) (b : Int) : Prop :=
  match op with
  | .add | .sub | .mul | .eql | .neq | .lss | .leq | .gtr | .geq | .and => True
  | .quo | .rem => b ≠ 0
  | .shl | .shr => 0 ≤ b
  | _ => False
def sNil : Value → Bool | .slice none _ _ => true | _ => false
def eqI : List Value → List Value → Bool
  | [], [] => true
  | a :: r, b :: s => (iOf a == iOf b) && eqI r s
  | _, _ => false
def allI : List Value → Prop
  | [] => True
  | a :: r => IsI .i64 a ∧ allI r
def flatT (P : Program) (t : TypeId) : Bool := match P.underlying t with
  | some (.struct fs) => !P.stoodInHeld t && !P.eqGuardType P.depth t && fs.size == P.cellsOf t && fs.toList.zipIdx.all fun p => p.1.name != "_" && p.1.offset == p.2 && (match P.underlying p.1.type with | some (.int .i64) => true | _ => false)
  | _ => false
def arrI (P : Program) (t : TypeId) : Bool := match P.underlying t with
  | some (.array n e) => !P.eqGuardType P.depth t && P.cellsOf e == 1 && n == P.cellsOf t && (match P.underlying e with | some (.int .i64) => true | _ => false)
  | _ => false
def slSub (size : Nat) (v : Value) (l h m : Nat) : Value :=
  match v with
  | .slice a _ _ => .slice (if m = l then a else a.map (·.add (l * size))) (h - l) (m - l)
  | _ => undef
def oLo (ρ : Operand → Value) : Option Operand → Int | none => 0 | some x => iOf (ρ x)
def oHi (ρ : Operand → Value) (n : Nat) : Option Operand → Int | none => n | some x => iOf (ρ x)
def oIs (ρ : Operand → Value) : Option Operand → Prop | none => True | some x => IsI .i64 (ρ x)
def arrT (P : Program) (t : TypeId) : Bool := match P.underlying t with | some (.array _ _) => true | _ => false
def memA (w : World) (a : Addr) (n : Nat) : List Value := memN w a 0 n
def hasA (w : World) (a : Addr) (n : Nat) : Prop := hasN w a 0 n
def noB : Option Operand → Bool | none => true | some _ => false
def qcall (P : Program) (ρ : Operand → Value) (f : Callee) (args : List Operand) (ts : List TypeId) (K : Prop → Value → Prop) : Prop :=
  match f with
  | .builtin .len => match args with
    | [x] => match ts with
      | [t] => match P.underlying t with
        | some (.slice _) => K (IsS (ρ x)) (.int .i64 (slLen (ρ x)))
        | _ => False
      | _ => False
    | _ => False
  | .builtin .min => match args with
    | [x, y] => K (IsI .i64 (ρ x) ∧ IsI .i64 (ρ y)) (.int .i64 (min (iOf (ρ x)) (iOf (ρ y))))
    | _ => False
  | .builtin .max => match args with
    | [x, y] => K (IsI .i64 (ρ x) ∧ IsI .i64 (ρ y)) (.int .i64 (max (iOf (ρ x)) (iOf (ρ y))))
    | _ => False
  | _ => False
def qarr (P : Program) (op : BinOp) (t : TypeId) (x y : Value) (K : Prop → Value → Prop) : Prop :=
  match op with
  | .eql => arrI P t = true ∧ K (IsA x ∧ IsA y ∧ (agOf x).length = P.cellsOf t ∧ (agOf y).length = P.cellsOf t ∧ allI (agOf x) ∧ allI (agOf y)) (.bool (eqI (agOf x) (agOf y)))
  | _ => False
def qop (P : Program) (w : World) (ρ : Operand → Value) (op : Op) (K : Prop → Value → Prop) : Prop :=
  match op with
  | .move x => K True (ρ x)
  | .assign x => K True (ρ x)
  | .load t x => if oneCell P t then K (IsP (ρ x) ∧ has1 w (ptOf (ρ x))) (mem w (ptOf (ρ x)))
      else if arrT P t then (manyCell P t = true ∧ P.cellsOf t ≠ 0) ∧ K (IsP (ρ x) ∧ hasA w (ptOf (ρ x)) (P.cellsOf t)) (.agg (memA w (ptOf (ρ x)) (P.cellsOf t)).toArray)
      else (manyCell P t = true ∧ P.cellsOf t ≠ 0) ∧ K (IsP (ρ x) ∧ hasN w (ptOf (ρ x)) 0 (P.cellsOf t)) (.agg (memN w (ptOf (ρ x)) 0 (P.cellsOf t)).toArray)
  | .binOp op t x y _ => match P.underlying t with
      | some (.int k) => K (IsI k (ρ x) ∧ IsI k (ρ y) ∧ ibinOk op (iOf (ρ y))) (ibin op k (iOf (ρ x)) (iOf (ρ y)))
      | some .bool => match op with
        | .eql => K (IsB (ρ x) ∧ IsB (ρ y)) (.bool (bOf (ρ x) == bOf (ρ y)))
        | .neq => K (IsB (ρ x) ∧ IsB (ρ y)) (.bool (bOf (ρ x) != bOf (ρ y)))
        | _ => False
      | some (.slice _) => match op with
        | .eql => K (IsS (ρ x) ∧ ρ y = .slice none 0 0) (.bool (sNil (ρ x)))
        | .neq => K (IsS (ρ x) ∧ ρ y = .slice none 0 0) (.bool (!sNil (ρ x)))
        | _ => False
      | some (.struct _) => match op with
        | .eql => flatT P t = true ∧ K (IsA (ρ x) ∧ IsA (ρ y) ∧ (agOf (ρ x)).length = P.cellsOf t ∧ (agOf (ρ y)).length = P.cellsOf t ∧ allI (agOf (ρ x)) ∧ allI (agOf (ρ y))) (.bool (eqI (agOf (ρ x)) (agOf (ρ y))))
        | .neq => flatT P t = true ∧ K (IsA (ρ x) ∧ IsA (ρ y) ∧ (agOf (ρ x)).length = P.cellsOf t ∧ (agOf (ρ y)).length = P.cellsOf t ∧ allI (agOf (ρ x)) ∧ allI (agOf (ρ y))) (.bool (!eqI (agOf (ρ x)) (agOf (ρ y))))
        | _ => False
      | _ => qarr P op t (ρ x) (ρ y) K
  | .unOp .not _ x => K (IsB (ρ x)) (.bool (!bOf (ρ x)))
  | .unOp .neg t x => match P.underlying t with
      | some (.int k) => K (IsI k (ρ x)) (.int k (k.wrap (0 - iOf (ρ x))))
      | _ => False
  | .fieldAddr s x f => match P.underlying s with
      | some (.struct fs) => match fs[f]? with
        | some fd => P.cellsOf fd.type ≠ 0 ∧ K (IsP (ρ x)) (.pointer (some ((ptOf (ρ x)).add fd.offset)))
        | none => False
      | _ => False
  | .indexAddr t x i => match P.underlying t with
      | some (.slice e) => P.cellsOf e ≠ 0 ∧ K (IsS (ρ x) ∧ IsI .i64 (ρ i) ∧ 0 ≤ iOf (ρ i) ∧ iOf (ρ i) < slLen (ρ x)) (.pointer (some ((slAt (ρ x)).add ((iOf (ρ i)).toNat * P.cellsOf e))))
      | some (.array n e) => P.cellsOf e ≠ 0 ∧ K (IsP (ρ x) ∧ IsI .i64 (ρ i) ∧ 0 ≤ iOf (ρ i) ∧ iOf (ρ i) < n) (.pointer (some ((ptOf (ρ x)).add ((iOf (ρ i)).toNat * P.cellsOf e))))
      | _ => False
  | .index t x i => match P.underlying t with
      | some (.array n e) => oneCell P e = true ∧ P.cellsOf e = 1 ∧ K (IsA (ρ x) ∧ (agOf (ρ x)).length = n ∧ IsI .i64 (ρ i) ∧ 0 ≤ iOf (ρ i) ∧ iOf (ρ i) < n) ((agOf (ρ x)).getD (iOf (ρ i)).toNat undef)
      | _ => False
  | .call c => qcall P ρ c.callee c.args.toList c.argTypes.toList K
  | .slice t x lo hi mx => match P.underlying t with
      | some (.slice e) => P.cellsOf e ≠ 0 ∧ K (IsS (ρ x) ∧ oIs ρ lo ∧ oIs ρ hi ∧ oIs ρ mx ∧ 0 ≤ oLo ρ lo ∧ oLo ρ lo ≤ oHi ρ (slLen (ρ x)) hi ∧ (hi.isSome → oHi ρ (slLen (ρ x)) hi ≤ oHi ρ (slCap (ρ x)) mx) ∧ (mx.isSome → hi.isSome ∧ oHi ρ (slCap (ρ x)) mx ≤ slCap (ρ x)))
          (slSub (P.cellsOf e) (ρ x) (oLo ρ lo).toNat (oHi ρ (slLen (ρ x)) hi).toNat (oHi ρ (slCap (ρ x)) mx).toNat)
      | some (.array n e) => (noB lo = true ∧ noB hi = true ∧ noB mx = true ∧ P.cellsOf e ≠ 0) ∧ K (IsP (ρ x)) (.slice (some (ptOf (ρ x))) n n)
      | _ => False
  | .nilCheck x => K (IsP (ρ x)) (ρ x)
  | .makeInterface t x => match P.underlying t with
      | some (.int _) => K True (.iface t (ρ x))
      | _ => False
  | .field t x f => match P.underlying t with
      | some (.struct fs) => match fs[f]? with
        | some fd => if oneCell P fd.type then K (IsA (ρ x) ∧ fd.offset < (agOf (ρ x)).length) ((agOf (ρ x)).getD fd.offset undef)
            else manyCell P fd.type = true ∧ P.cellsOf fd.type ≠ 0 ∧ K (IsA (ρ x)) (.agg (((agOf (ρ x)).drop fd.offset).take (P.cellsOf fd.type)).toArray)
        | none => False
      | _ => False
  | .convert s d x => match P.underlying s with
      | some (.int k) => match P.underlying d with
        | some (.int k') => K (IsI k (ρ x)) (.int k' (k'.wrap (iOf (ρ x))))
        | _ => False
      | _ => False
  | .extract x i => K (IsT (ρ x) ∧ i < (tpOf (ρ x)).length) ((tpOf (ρ x)).getD i undef)
  | .makeFunc fn f c => K True (.func fn (f.map ρ) (c.map ρ))
  | .build t ps => ∃ v, K (∀ w', (Instr.build t (ps.map fun p => (p.1, ρ p.2))).run P w' = .ok v w') v
  | _ => False
theorem underlying_run {P : Program} {t : TypeId} {d : TypeDesc} (h : P.underlying t = some d) (w : World) : (underlying t).run P w = .ok d w := by
  simp [underlying, h]
theorem isAgg_one {P : Program} {t : TypeId} (h : oneCell P t = true) (w : World) : (isAgg t).run P w = .ok false w := by
  unfold oneCell at h
  cases hu : P.underlying t with
  | none => rw [hu] at h; cases h
  | some d =>
    rw [hu] at h
    unfold isAgg
    rw [Sem.run_bind, underlying_run hu]
    cases d <;> first | rfl | cases h
theorem isAgg_many {P : Program} {t : TypeId} (h : manyCell P t = true) (w : World) : (isAgg t).run P w = .ok true w := by
  unfold manyCell at h
  cases hu : P.underlying t with
  | none => rw [hu] at h; cases h
  | some d =>
    rw [hu] at h
    unfold isAgg
    rw [Sem.run_bind, underlying_run hu]
    cases d <;> first | rfl | cases h
theorem sliceBound_run {P : Program} {w : World} {v : Value} {y : Nat} {code : BoundsCode} (h : IsI .i64 v) (h0 : 0 ≤ iOf v) (h1 : iOf v ≤ y) : (Instr.sliceBound v y code).run P w = .ok (iOf v).toNat w := by
  obtain ⟨n, rfl⟩ := h.ex
  simp only [iOf_mk] at h0 h1
  simp [Instr.sliceBound, asIntOf, h0, h1]
theorem sliceBounds_run {P : Program} {w : World} {ρ : Operand → Value} (n c : Nat) (lo hi mx : Option Operand) (h1 : oIs ρ lo) (h2 : oIs ρ hi) (h3 : oIs ρ mx) (h4 : 0 ≤ oLo ρ lo) (h5 : oLo ρ lo ≤ oHi ρ n hi)
    (h6 : hi.isSome → oHi ρ n hi ≤ oHi ρ c mx) (h7 : mx.isSome → hi.isSome ∧ oHi ρ c mx ≤ c) :
    (Instr.sliceBounds true n c (lo.map ρ) (hi.map ρ) (mx.map ρ)).run P w = .ok ((oLo ρ lo).toNat, (oHi ρ n hi).toNat, (oHi ρ c mx).toNat) w := by
  cases mx with
  | none =>
    cases hi with
    | none =>
      cases lo with
      | none => simp [Instr.sliceBounds, oLo, oHi]
      | some l =>
        simp only [oIs, oLo, oHi] at *
        simp [Instr.sliceBounds, sliceBound_run h1 h4 h5, oLo, oHi]
    | some x =>
      simp only [oIs, oLo, oHi, Option.isSome_some, forall_const] at *
      have hx0 : 0 ≤ iOf (ρ x) := by omega
      cases lo with
      | none => simp [Instr.sliceBounds, sliceBound_run h2 hx0 h6, oLo, oHi]
      | some l =>
        simp only at *
        have h5' : iOf (ρ l) ≤ ((iOf (ρ x)).toNat : Nat) := by omega
        simp [Instr.sliceBounds, sliceBound_run h2 hx0 h6, sliceBound_run h1 h4 h5', oLo, oHi]
  | some m =>
    cases hi with
    | none => simp at h7
    | some x =>
      simp only [oIs, oLo, oHi, Option.isSome_some, forall_const, true_and] at *
      have hx0 : 0 ≤ iOf (ρ x) := by omega
      have hm0 : 0 ≤ iOf (ρ m) := by omega
      have h6' : iOf (ρ x) ≤ ((iOf (ρ m)).toNat : Nat) := by omega
      cases lo with
      | none => simp [Instr.sliceBounds, sliceBound_run h3 hm0 h7, sliceBound_run h2 hx0 h6', oLo, oHi]
      | some l =>
        simp only at *
        have h5' : iOf (ρ l) ≤ ((iOf (ρ x)).toNat : Nat) := by omega
        simp [Instr.sliceBounds, sliceBound_run h3 hm0 h7, sliceBound_run h2 hx0 h6', sliceBound_run h1 h4 h5', oLo, oHi]
theorem loadVar_one {P : Program} {t : TypeId} (h : oneCell P t = true) {w w' : World} (hx : Ext w w') {a : Addr} (ha : has1 w a) :
    (loadVar t a).run P w' = .ok (mem w a) w' := by
  unfold loadVar
  simp [Sem.run_bind, isAgg_one h, hx.cell ha]
theorem loadVar_agg {P : Program} {t : TypeId} (h : manyCell P t = true)
    {w w' : World} (hx : Ext w w') {a : Addr} (ha : hasN w a 0 (P.cellsOf t)) (hne : P.cellsOf t ≠ 0) :
    (loadVar t a).run P w' = .ok (.agg (memN w a 0 (P.cellsOf t)).toArray) w' := by
  obtain ⟨i, hi, hsz⟩ := cells_info hne
  have hagg : (isAgg t).run P w' = .ok true w' := by
    unfold manyCell at h
    cases hu : P.underlying t with
    | none => rw [hu] at h; cases h
    | some d =>
      rw [hu] at h
      unfold isAgg
      rw [Sem.run_bind, underlying_run hu]
      cases d <;> first | rfl | cases h
  have hs : (sizeOf t).run P w' = .ok (P.cellsOf t) w' := by simp [sizeOf, typeInfo, hi, hsz]
  unfold loadVar
  simp only [Sem.run_bind, hagg, hs, Result.andThen_ok, if_true]
  simp [loadCells, run_memN hx a _ 0 #[] ha]
theorem min2_eq (x y : Int) : (if y < x then y else x) = min x y := by split <;> omega
theorem max2_eq (x y : Int) : (if x < y then y else x) = max x y := by split <;> omega
theorem qcall_sound {P : Program} {w : World} {ρ : Operand → Value} {dst : Option Tmp} {c : Call} {type : TypeId} {pos : String} {after : Array Edge} {guard : Option (Nat × Bool)} {K : Prop → Value → Prop}
    (h : qcall P ρ c.callee c.args.toList c.argTypes.toList K) :
    ∃ ob v, K ob v ∧ (ob → ∀ w', (execOp ρ ⟨dst, .call c, type, pos, after, guard⟩).run P w' = .ok (.value v) w') := by
  obtain ⟨f, ⟨args⟩, ⟨ts⟩⟩ := c
  simp only at h
  unfold qcall at h
  split at h
  · split at h
    · rename_i x
      split at h
      · rename_i t
        split at h
        · rename_i e he
          refine ⟨_, _, h, fun hs w' => ?_⟩
          simp only [execOp]
          rcases hs.ex with hs | ⟨a, n, c, hs⟩
          · simp [resolve, invoke, builtin, Builtin.len_, underlying_run he, goInt, hs]
          · simp [resolve, invoke, builtin, Builtin.len_, underlying_run he, goInt, hs]
        · exact h.elim
      · exact h.elim
    · exact h.elim
  · split at h
    · rename_i x y
      refine ⟨_, _, h, fun ⟨hx, hy⟩ w' => ?_⟩
      obtain ⟨m, hx⟩ := hx.ex
      obtain ⟨n, hy⟩ := hy.ex
      simp [execOp, resolve, invoke, builtin, Builtin.min_, hx, hy, Builtin.min2, min2_eq]
    · exact h.elim
  · split at h
    · rename_i x y
      refine ⟨_, _, h, fun ⟨hx, hy⟩ w' => ?_⟩
      obtain ⟨m, hx⟩ := hx.ex
      obtain ⟨n, hy⟩ := hy.ex
      simp [execOp, resolve, invoke, builtin, Builtin.max_, hx, hy, Builtin.max2, max2_eq]
    · exact h.elim
  · exact h.elim
theorem allI_get : ∀ {l : List Value} {i : Nat}, allI l → ∀ h : i < l.length, IsI .i64 l[i]
  | a :: r, 0, hl, h => hl.1
  | a :: r, i + 1, hl, h => allI_get (l := r) hl.2 (by simpa using h)
theorem eq_bool {P : Program} {t : TypeId} (hu : P.underlying t = some .bool) (a b : Bool) (w : World) : (Op.equal t (.bool a) (.bool b)).run P w = .ok (a == b) w := by
  simp only [Op.equal, Op.maxDepth]
  unfold Op.equalIn
  rw [Sem.run_bind]
  simp [underlying, hu]
theorem eq_snil {P : Program} {t e : TypeId} (hu : P.underlying t = some (.slice e)) {v : Value} (hv : IsS v) (w : World) : (Op.equal t v (.slice none 0 0)).run P w = .ok (sNil v) w := by
  simp only [Op.equal, Op.maxDepth]
  unfold Op.equalIn
  rw [Sem.run_bind]
  rcases hv.ex with rfl | ⟨a, n, c, rfl⟩
  · simp [underlying, hu, sNil]
  · simp [underlying, hu, sNil]
theorem flat_guard {P : Program} {t : TypeId} (hf : flatT P t = true) : P.eqGuardType P.depth t = false := by
  unfold flatT at hf
  split at hf
  · simp only [Bool.and_eq_true, Bool.not_eq_true', beq_iff_eq] at hf
    exact hf.1.1.2
  · cases hf
theorem flat_run {P : Program} {t : TypeId} {xs ys : List Value} (hf : flatT P t = true) (hx : xs.length = P.cellsOf t) (hy : ys.length = P.cellsOf t) (h1 : allI xs) (h2 : allI ys) (w : World) :
    (Op.equal t (.agg xs.toArray) (.agg ys.toArray)).run P w = .ok (eqI xs ys) w := by
  unfold flatT at hf
  split at hf
  · rename_i fs hu
    simp only [Bool.and_eq_true, Bool.not_eq_true', beq_iff_eq] at hf
    obtain ⟨⟨⟨hs, _⟩, hsz⟩, hall⟩ := hf
    have key : ∀ (l : List Field) (i : Nat), (l.zipIdx i).all (fun p => p.1.name != "_" && p.1.offset == p.2 && (match P.underlying p.1.type with | some (.int .i64) => true | _ => false)) = true → i + l.length = xs.length →
        (forIn (m := Sem) l (none, PUnit.unit) (fun f _ => do
          if f.name ≠ "_" then
            if !(← Op.equalIn 9999 f.type (← part f.type xs.toArray f.offset) (← part f.type ys.toArray f.offset)) then return .done (some false, PUnit.unit)
          pure (.yield (none, PUnit.unit)))).run P w = .ok (if eqI (xs.drop i) (ys.drop i) then none else some false, PUnit.unit) w := by
      intro l
      induction l with
      | nil =>
        intro i _ hi
        simp at hi
        rw [hi, List.drop_length, show xs.length = ys.length by omega, List.drop_length]
        simp [eqI]
      | cons f l ih =>
        intro i hal hi
        simp only [List.zipIdx_cons, List.all_cons, Bool.and_eq_true, bne_iff_ne, ne_eq, beq_iff_eq] at hal
        obtain ⟨⟨⟨hn, ho⟩, hk⟩, hal⟩ := hal
        simp only [List.length_cons] at hi
        have hix : i < xs.length := by omega
        have hiy : i < ys.length := by omega
        have hu1 : P.underlying f.type = some (.int .i64) := by
          split at hk
          · assumption
          · cases hk
        have hone : oneCell P f.type = true := by unfold oneCell; rw [hu1]
        obtain ⟨a, ha⟩ := (allI_get h1 hix).ex
        obtain ⟨b, hb⟩ := (allI_get h2 hiy).ex
        have hp : ∀ (zs : List Value) (v : Value) (h : i < zs.length), zs[i] = v → (part f.type zs.toArray f.offset).run P w = .ok v w := by
          intro zs v h hv
          have hagg : (isAgg f.type).run P w = .ok false w := by
            unfold isAgg
            rw [Sem.run_bind]
            simp [underlying, hu1]
          unfold part
          rw [Sem.run_bind, hagg]
          simp [ho, h, hv]
        have he : (Op.equalIn 9999 f.type (.int .i64 a) (.int .i64 b)).run P w = .ok (a == b) w := by
          unfold Op.equalIn
          rw [Sem.run_bind]
          simp [underlying, hu1]
        rw [List.drop_eq_getElem_cons hix, List.drop_eq_getElem_cons hiy, ha, hb]
        simp only [eqI, iOf_mk]
        have ih' := ih (i + 1) hal (by omega)
        rw [List.forIn_cons]
        simp only [Sem.run_bind, hn, not_false_eq_true, ne_eq, if_true, hp xs _ hix ha, hp ys _ hiy hb, Result.andThen_ok, he]
        by_cases hab : a = b
        · subst hab
          simp only [beq_self_eq_true, Bool.not_true, Bool.false_eq_true, if_false, Sem.run_pure, Result.andThen_ok, Bool.true_and]
          simpa using ih'
        · simp [hab]
    have := key fs.toList 0 (by simpa using hall) (by simp; omega)
    simp only [Op.equal, Op.maxDepth]
    unfold Op.equalIn
    rw [Sem.run_bind]
    simp only [underlying, hu, Sem.run_bind, run_program, Result.andThen_ok, Sem.run_pure, hs, Bool.false_eq_true, if_false]
    rw [← Array.forIn_toList]
    simp only [List.drop_zero] at this
    rw [this]
    cases eqI xs ys <;> simp
  · cases hf
theorem arr_run {P : Program} {t : TypeId} {xs ys : List Value} (hf : arrI P t = true) (hx : xs.length = P.cellsOf t) (hy : ys.length = P.cellsOf t) (h1 : allI xs) (h2 : allI ys) (w : World) :
    (Op.equal t (.agg xs.toArray) (.agg ys.toArray)).run P w = .ok (eqI xs ys) w := by
  unfold arrI at hf
  split at hf
  · rename_i n e hu
    simp only [Bool.and_eq_true, Bool.not_eq_true', beq_iff_eq] at hf
    obtain ⟨⟨⟨_, hc⟩, hn⟩, hk⟩ := hf
    have hu1 : P.underlying e = some (.int .i64) := by
      split at hk
      · assumption
      · cases hk
    have hone : oneCell P e = true := by unfold oneCell; rw [hu1]
    obtain ⟨ei, hei, hsz⟩ := cells_info (P := P) (t := e) (by omega)
    have hagg : (isAgg e).run P w = .ok false w := isAgg_one hone w
    have key : ∀ (m i : Nat), i + m = xs.length →
        (forIn (m := Sem) (List.range' i m) (none, PUnit.unit) (fun i _ => do
          if !(← Op.equalIn 9999 e (← part e xs.toArray (i * 1)) (← part e ys.toArray (i * 1))) then return .done (some false, PUnit.unit)
          pure (.yield (none, PUnit.unit)))).run P w = .ok (if eqI (xs.drop i) (ys.drop i) then none else some false, PUnit.unit) w := by
      intro m
      induction m with
      | zero =>
        intro i hi
        rw [Nat.add_zero] at hi
        rw [hi, List.drop_length, show xs.length = ys.length by omega, List.drop_length]
        simp [eqI]
      | succ m ih =>
        intro i hi
        have hix : i < xs.length := by omega
        have hiy : i < ys.length := by omega
        obtain ⟨a, ha⟩ := (allI_get h1 hix).ex
        obtain ⟨b, hb⟩ := (allI_get h2 hiy).ex
        have hp : ∀ (zs : List Value) (v : Value) (h : i < zs.length), zs[i] = v → (part e zs.toArray (i * 1)).run P w = .ok v w := by
          intro zs v h hv
          unfold part
          rw [Sem.run_bind, hagg]
          simp [h, hv]
        have he : (Op.equalIn 9999 e (.int .i64 a) (.int .i64 b)).run P w = .ok (a == b) w := by
          unfold Op.equalIn
          rw [Sem.run_bind]
          simp [underlying, hu1]
        rw [List.drop_eq_getElem_cons hix, List.drop_eq_getElem_cons hiy, ha, hb]
        simp only [eqI, iOf_mk]
        have ih' := ih (i + 1) (by omega)
        rw [List.range'_succ, List.forIn_cons]
        simp only [Sem.run_bind, hp xs _ hix ha, hp ys _ hiy hb, Result.andThen_ok, he]
        by_cases hab : a = b
        · subst hab
          simp only [beq_self_eq_true, Bool.not_true, Bool.false_eq_true, if_false, Sem.run_pure, Result.andThen_ok, Bool.true_and]
          simpa using ih'
        · simp [hab]
    have := key n 0 (by omega)
    simp only [Op.equal, Op.maxDepth]
    unfold Op.equalIn
    rw [Sem.run_bind]
    simp only [underlying, hu, Sem.run_bind, run_program, Result.andThen_ok, Sem.run_pure, sizeOf, typeInfo, hei, hsz, hc, Std.Legacy.Range.forIn_eq_forIn_range', Std.Legacy.Range.size, Nat.sub_zero, Nat.add_one_sub_one, Nat.div_one]
    simp only [List.drop_zero] at this
    rw [this]
    cases eqI xs ys <;> simp
  · cases hf
theorem arrI_guard {P : Program} {t : TypeId} (hf : arrI P t = true) : P.eqGuardType P.depth t = false := by
  unfold arrI at hf
  split at hf
  · simp only [Bool.and_eq_true, Bool.not_eq_true'] at hf
    exact hf.1.1.1
  · cases hf
theorem ibin_run {P : Program} {op : BinOp} {k : IntKind} {t : TypeId} {m n : Int} (hok : ibinOk op n) (x y : Operand) (w : World) :
    (do eqGuard op t x y (.int k m) (.int k n); binOp op t (.int k m) (.int k n) : Sem Value).run P w = .ok (ibin op k m n) w := by
  cases op <;> simp only [ibinOk] at hok
  case quo => simp [eqGuard, binOp, Op.intDiv, ibin, hok]
  case rem => simp [eqGuard, binOp, Op.intDiv, ibin, hok]
  case shl => simp [eqGuard, binOp, Op.shift, ibin, show ¬ n < 0 by omega]
  case shr => simp [eqGuard, binOp, Op.shift, ibin, show ¬ n < 0 by omega]
  case and => simp [eqGuard, binOp, Op.intBits, ibin, iand]
  all_goals first | exact hok.elim | simp [eqGuard, binOp, Op.intArith, Op.intCmp, ibin]
def ldOp : Op → Bool | .load _ _ => true | _ => false
theorem qop_sound {P : Program} {w : World} {ρ : Operand → Value} {o : Oper} {K : Prop → Value → Prop} (h : qop P w ρ o.op K) :
    ∃ ob v, K ob v ∧ (ob → ∀ w', (ldOp o.op = true → Ext w w') → (execOp ρ o).run P w' = .ok (.value v) w') := by
  obtain ⟨dst, op, type, pos, after, guard⟩ := o
  simp only at h
  unfold qop at h
  split at h
  · exact ⟨_, _, h, fun _ w' _ => by simp [execOp]⟩
  · exact ⟨_, _, h, fun _ w' _ => by simp [execOp]⟩
  · rename_i t x
    split at h
    · rename_i h1
      refine ⟨_, _, h, fun ⟨hp, hc⟩ w' hx => ?_⟩
      replace hx := hx rfl
      have hl := loadVar_one h1 hx hc
      obtain ⟨a, ha⟩ := hp.ex
      rw [ha] at hl
      simp only [ptOf_mk] at hl
      simp [execOp, ha, Instr.loadAt, Instr.sureAddr, hl]
    · split at h
      · refine ⟨_, _, h.2, fun ⟨hp, hc⟩ w' hx => ?_⟩
        replace hx := hx rfl
        have hl := loadVar_agg h.1.1 hx hc h.1.2
        obtain ⟨a, ha⟩ := hp.ex
        rw [ha] at hl
        simp only [ptOf_mk] at hl
        simp [execOp, ha, Instr.loadAt, Instr.sureAddr, hl, memA]
      · refine ⟨_, _, h.2, fun ⟨hp, hc⟩ w' hx => ?_⟩
        replace hx := hx rfl
        have hl := loadVar_agg h.1.1 hx hc h.1.2
        obtain ⟨a, ha⟩ := hp.ex
        rw [ha] at hl
        simp only [ptOf_mk] at hl
        simp [execOp, ha, Instr.loadAt, Instr.sureAddr, hl]
  · rename_i bop t x y ty
    split at h
    · rename_i k hk
      refine ⟨_, _, h, fun ⟨hx, hy, hok⟩ w' _ => ?_⟩
      obtain ⟨m, hm⟩ := hx.ex
      obtain ⟨n, hn⟩ := hy.ex
      rw [hn, iOf_mk] at hok
      have := ibin_run (P := P) (k := k) (t := t) (m := m) hok x y w'
      simp only [execOp, hm, hn, Sem.run_bind] at this ⊢
      rw [this]
      rfl
    · rename_i hu
      split at h
      · refine ⟨_, _, h, fun ⟨hx, hy⟩ w' _ => ?_⟩
        obtain ⟨m, hm⟩ := hx.ex
        obtain ⟨n, hn⟩ := hy.ex
        simp [execOp, hm, hn, eqGuard, binOp, eq_bool hu]
      · refine ⟨_, _, h, fun ⟨hx, hy⟩ w' _ => ?_⟩
        obtain ⟨m, hm⟩ := hx.ex
        obtain ⟨n, hn⟩ := hy.ex
        simp [execOp, hm, hn, eqGuard, binOp, eq_bool hu, bne]
      · exact h.elim
    · rename_i hu
      split at h
      · refine ⟨_, _, h, fun ⟨hx, hy⟩ w' _ => ?_⟩
        have he := eq_snil hu hx w'
        rcases hx.ex with hx | ⟨a, n, c, hx⟩
        · rw [hx] at he ⊢; simp [execOp, hx, hy, eqGuard, binOp, he]
        · rw [hx] at he ⊢; simp [execOp, hx, hy, eqGuard, binOp, he]
      · refine ⟨_, _, h, fun ⟨hx, hy⟩ w' _ => ?_⟩
        have he := eq_snil hu hx w'
        rcases hx.ex with hx | ⟨a, n, c, hx⟩
        · rw [hx] at he ⊢; simp [execOp, hx, hy, eqGuard, binOp, he]
        · rw [hx] at he ⊢; simp [execOp, hx, hy, eqGuard, binOp, he]
      · exact h.elim
    · rename_i hu
      split at h
      · obtain ⟨hf, h⟩ := h
        refine ⟨_, _, h, fun ⟨hx, hy, h1, h2, h3, h4⟩ w' _ => ?_⟩
        have hg : P.eqGuardType P.depth t = false := flat_guard hf
        obtain ⟨⟨xs⟩, hxa⟩ := hx.ex
        obtain ⟨⟨ys⟩, hya⟩ := hy.ex
        rw [hxa] at h1 h3 ⊢
        rw [hya] at h2 h4 ⊢
        simp only [agOf_mk] at h1 h2 h3 h4 ⊢
        have hr := flat_run hf h1 h2 h3 h4 w'
        simp [execOp, hxa, hya, eqGuard, binOp, hg, hr]
      · obtain ⟨hf, h⟩ := h
        refine ⟨_, _, h, fun ⟨hx, hy, h1, h2, h3, h4⟩ w' _ => ?_⟩
        have hg : P.eqGuardType P.depth t = false := flat_guard hf
        obtain ⟨⟨xs⟩, hxa⟩ := hx.ex
        obtain ⟨⟨ys⟩, hya⟩ := hy.ex
        rw [hxa] at h1 h3 ⊢
        rw [hya] at h2 h4 ⊢
        simp only [agOf_mk] at h1 h2 h3 h4 ⊢
        have hr := flat_run hf h1 h2 h3 h4 w'
        simp [execOp, hxa, hya, eqGuard, binOp, hg, hr]
      · exact h.elim
    · unfold qarr at h
      split at h
      · obtain ⟨hf, h⟩ := h
        refine ⟨_, _, h, fun ⟨hx, hy, h1, h2, h3, h4⟩ w' _ => ?_⟩
        have hg : P.eqGuardType P.depth t = false := arrI_guard hf
        obtain ⟨⟨xs⟩, hxa⟩ := hx.ex
        obtain ⟨⟨ys⟩, hya⟩ := hy.ex
        rw [hxa] at h1 h3 ⊢
        rw [hya] at h2 h4 ⊢
        simp only [agOf_mk] at h1 h2 h3 h4 ⊢
        have hr := arr_run hf h1 h2 h3 h4 w'
        simp [execOp, hxa, hya, eqGuard, binOp, hg, hr]
      · exact h.elim
  · rename_i t x
    refine ⟨_, _, h, fun hx w' _ => ?_⟩
    obtain ⟨b, hb⟩ := hx.ex
    simp [execOp, hb, Op.unary]
  · rename_i t x
    split at h
    · rename_i k hk
      refine ⟨_, _, h, fun hx w' _ => ?_⟩
      obtain ⟨b, hb⟩ := hx.ex
      simp [execOp, hb, Op.unary, Op.intArith]
    · exact h.elim
  · rename_i s x f
    split at h
    · rename_i fs hs
      split at h
      · rename_i fd hf
        obtain ⟨hne0, h⟩ := h
        obtain ⟨i, hi, hsz⟩ := cells_info hne0
        have hne : i.size ≠ 0 := by rw [hsz]; exact hne0
        refine ⟨_, _, h, fun hp w' _ => ?_⟩
        obtain ⟨a, ha⟩ := hp.ex
        simp [execOp, ha, Instr.fieldAt, underlying_run hs, hf, Instr.sureAddr, fieldPlace, sizeOf, typeInfo, hi, hne]
      · exact h.elim
    · exact h.elim
  · rename_i t x ix
    split at h
    · rename_i e he
      obtain ⟨hne0, h⟩ := h
      obtain ⟨ei, hei, hsz⟩ := cells_info hne0
      refine ⟨_, _, h, fun ⟨hs, hi, h0, h1⟩ w' _ => ?_⟩
      obtain ⟨n, hn⟩ := hi.ex
      rw [hn] at h0 h1
      rcases hs.ex with hs | ⟨a, l, c, hs⟩
      · rw [hs] at h1; simp at h0 h1; omega
      · rw [hs] at h1
        simp only [iOf_mk, slLen_mk] at h0 h1
        simp [execOp, hs, hn, Instr.indexAt, asIntOf, underlying_run he, h0, h1, sizeOf, typeInfo, hei, hsz]
    · rename_i n e he
      obtain ⟨hne0, h⟩ := h
      obtain ⟨ei, hei, hsz⟩ := cells_info hne0
      refine ⟨_, _, h, fun ⟨hp, hi, h0, h1⟩ w' _ => ?_⟩
      obtain ⟨m, hm⟩ := hi.ex
      rw [hm] at h0 h1
      simp only [iOf_mk] at h0 h1
      obtain ⟨a, ha⟩ := hp.ex
      simp [execOp, ha, hm, Instr.indexAt, asIntOf, Instr.sureAddr, underlying_run he, h0, h1, sizeOf, typeInfo, hei, hsz]
    · exact h.elim
  · rename_i t x ix
    split at h
    · rename_i n e he
      obtain ⟨h1, hsz, h⟩ := h
      obtain ⟨ei, hei, hsz'⟩ := cells_info (show P.cellsOf e ≠ 0 by rw [hsz]; decide)
      refine ⟨_, _, h, fun ⟨hx, hl, hi, h0, h2⟩ w' _ => ?_⟩
      obtain ⟨cs, hc⟩ := hx.ex
      obtain ⟨m, hm⟩ := hi.ex
      rw [hc] at hl
      rw [hm] at h0 h2
      simp only [iOf_mk, agOf_mk] at h0 h2 hl
      have hlt : m.toNat < cs.size := by simp at hl; omega
      simp [execOp, hc, hm, Instr.index, asIntOf, underlying_run he, h0, h2, part, isAgg_one h1, asAgg, sizeOf, typeInfo, hei, hsz', hsz, hlt]
    · exact h.elim
  · rename_i c
    obtain ⟨ob, v, h1, h2⟩ := qcall_sound (w := w) (dst := dst) (type := type) (pos := pos) (after := after) (guard := guard) h
    exact ⟨ob, v, h1, fun hb w' _ => h2 hb w'⟩
  · rename_i t x lo hi mx
    split at h
    · rename_i e he
      obtain ⟨hne0, h⟩ := h
      obtain ⟨ei, hei, hsz⟩ := cells_info hne0
      refine ⟨_, _, h, fun ⟨hs, h1, h2, h3, h4, h5, h6, h7⟩ w' _ => ?_⟩
      have hb : ∃ a n c, ρ x = .slice a n c := by
        rcases hs.ex with hs | ⟨a, n, c, hs⟩
        · exact ⟨_, _, _, hs⟩
        · exact ⟨_, _, _, hs⟩
      obtain ⟨a, n, c, hx⟩ := hb
      simp only [execOp]
      clear h hs
      generalize ρ x = v at *
      subst hx
      simp only [slLen_mk, slCap_mk] at h5 h6 h7 ⊢
      have hbd := sliceBounds_run (P := P) (w := w') (ρ := ρ) n c lo hi mx h1 h2 h3 h4 h5 h6 h7
      have hst : (sizeOf e).run P w' = .ok (P.cellsOf e) w' := by simp [sizeOf, typeInfo, hei, hsz]
      simp only [Instr.sliceAt, Sem.run_bind, underlying_run he, Result.andThen_ok, Instr.slice, hbd, hst, Sem.run_pure]
      rfl
    · rename_i n e he
      obtain ⟨⟨h1, h2, h3, hne0⟩, h⟩ := h
      obtain ⟨ei, hei, hsz⟩ := cells_info hne0
      refine ⟨_, _, h, fun hp w' _ => ?_⟩
      obtain ⟨a, ha⟩ := hp.ex
      cases lo <;> simp only [noB] at h1 <;> first | cases h1 | skip
      cases hi <;> simp only [noB] at h2 <;> first | cases h2 | skip
      cases mx <;> simp only [noB] at h3 <;> first | cases h3 | skip
      simp [execOp, ha, Instr.sliceAt, Instr.sureAddr, underlying_run he, Instr.sliceBounds, sizeOf, typeInfo, hei, Addr.add]
    · exact h.elim
  · rename_i x
    refine ⟨_, _, h, fun hp w' _ => ?_⟩
    obtain ⟨a, ha⟩ := hp.ex
    simp [execOp, ha]
  · rename_i t x
    split at h
    · rename_i k hk
      refine ⟨_, _, h, fun _ w' _ => ?_⟩
      simp [execOp, Instr.makeInterface, underlying_run hk]
    · exact h.elim
  · rename_i t x f
    split at h
    · rename_i fs hs
      split at h
      · rename_i fd hf
        split at h
        · rename_i h1
          refine ⟨_, _, h, fun ⟨hx, hlt⟩ w' _ => ?_⟩
          obtain ⟨cs, hc⟩ := hx.ex
          rw [hc] at hlt
          simp at hlt
          simp [execOp, hc, Instr.field, underlying_run hs, hf, part, isAgg_one h1, asAgg, hlt]
        · obtain ⟨h1, hne0, h⟩ := h
          obtain ⟨ei, hei, hsz⟩ := cells_info hne0
          refine ⟨_, _, h, fun hx w' _ => ?_⟩
          obtain ⟨cs, hc⟩ := hx.ex
          simp [execOp, hc, Instr.field, underlying_run hs, hf, part, isAgg_many h1, asAgg, sizeOf, typeInfo, hei, hsz]
          rw [← Array.toList_inj]
          simp [Array.toList_extract, List.extract_eq_take_drop]
      · exact h.elim
    · exact h.elim
  · rename_i s d x
    split at h
    · rename_i k hk
      split at h
      · rename_i k' hk'
        refine ⟨_, _, h, fun hx w' _ => ?_⟩
        obtain ⟨m, hm⟩ := hx.ex
        simp [execOp, hm, convert, underlying_run hk, underlying_run hk', Conv.intToInt]
      · exact h.elim
    · exact h.elim
  · rename_i x i
    refine ⟨_, _, h, fun ⟨ht, hi⟩ w' _ => ?_⟩
    obtain ⟨cs, hc⟩ := ht.ex
    rw [hc] at hi
    simp at hi
    simp [execOp, hc, Instr.extract, hi]
  · refine ⟨_, _, h, fun _ w' _ => by simp [execOp, Instr.makeFunc]⟩
  · obtain ⟨v, h⟩ := h
    refine ⟨_, _, h, fun hb w' _ => ?_⟩
    simp only [execOp, Sem.run_bind, hb w', Result.andThen_ok, Sem.run_pure]
  · exact h.elim
abbrev FL := List (Nat × Option Value)
def fnd : FL → Nat → Option Value
  | [], _ => none
  | (d, o) :: r, k => if d = k then o else fnd r k
def lk (t0 : Nat → Value) : FL → Nat → Value
  | [], k => t0 k
  | (d, some v) :: r, k => if d = k then v else lk t0 r k
  | (d, none) :: r, k => if d = k then t0 k else lk t0 r k
theorem lk_fnd (t0 : Nat → Value) : ∀ (L : FL) (k : Nat), lk t0 L k = (fnd L k).getD (t0 k)
  | [], _ => rfl
  | (d, some v) :: r, k => by by_cases h : d = k <;> simp [lk, fnd, h, lk_fnd t0 r k]
  | (d, none) :: r, k => by by_cases h : d = k <;> simp [lk, fnd, h, lk_fnd t0 r k]
def lkG (t0 : Nat → Value) (L : FL) : List (Nat × Value) → Nat → Value
  | [], k => lk t0 L k
  | (d, v) :: r, k => if d = k then v else lkG t0 L r k
inductive DF where
  | m (d : Nat)
  | f (fv : Fn) (cap args : Array Value)
instance : Coe Nat DF := ⟨DF.m⟩
def DF.d : DF → Deferred
  | .m d => { target := .collected d, args := #[] }
  | .f fv cap args => { target := .fn fv cap, args := args }
def marks (ds : List DF) : List Deferred := ds.map DF.d
structure Fr (n : Nat) (ds : List DF) (L : FL) (a : Act) : Prop where
  size : a.tmps.size = n
  defers : a.defers = marks ds
  at_ : ∀ k v, fnd L k = some v → a.tmps.getD k undef = v
def rho (l : Nat → Value) : Operand → Value
  | .tmp k => l k
  | .const v => v
  | .global g => .pointer (some ⟨g, 0, none⟩)
  | .func f => .func (.func f) #[] #[]
def gchain (all : List Oper) : Nat → Option (Nat × Bool) → List (Nat × Bool)
  | 0, _ => []
  | _ + 1, none => []
  | f + 1, some (i, want) => match all[i]? with
    | some o => match o.dst with
      | some s => (s, want) :: gchain all f o.guard
      | none => []
    | none => []
def gimp (l : Nat → Value) : List (Nat × Bool) → Prop → Prop
  | [], ob => ob
  | (s, b) :: r, ob => l s = .bool b → gimp l r ob
class Hush where
  p : Prop
def hush [h : Hush] : Prop := h.p
def gEff (l : Nat → Value) (G : List (Nat × Bool)) (yes no : Prop) : Prop :=
  match G with
  | [] => yes
  | [(s, b)] => (l s = .bool b ∧ yes) ∨ (l s = .bool (!b) ∧ no)
  | _ => False
def pk (c a b : Value) : Value :=
  match a, b with
  | .bool x, .bool y => .bool (bif bOf c then x else y)
  | _, _ => bif bOf c then a else b
theorem pk_true (a b : Value) : pk (.bool true) a b = a := by unfold pk; split <;> simp
theorem pk_false (a b : Value) : pk (.bool false) a b = b := by unfold pk; split <;> simp
def callable (P : Program) (f : FuncId) : Bool := match P.funcs[f]? with | some fn => fn.body.isSome && !(fn.name == "runtime.NumGoroutine") | none => false
abbrev fw (r : Option Nat) : Fence := { Fence.wide with round := r }
theorem calls_fw {r : Option Nat} {n : Nat} {P : Program} {f : FuncId} {args : Array Value} {w : World} {R : Ending → World → Prop} (h : Calls P f args w R) : CallsIn (fw r) n P f args w R := callsIn_wide.2 h
theorem fw_calls {r : Option Nat} {n : Nat} {P : Program} {f : FuncId} {args : Array Value} {w : World} {R : Ending → World → Prop} (h : CallsIn (fw r) n P f args w R) : Calls P f args w R := callsIn_wide.1 h
def PC (P : Program) (C : World → Prop) (f : Value) (args : List Value) (v : Value) : Prop :=
  match f with
  | .func (.func g) fi cap => callable P g = true ∧ ∀ w1, C w1 → Calls P g (fi ++ args.toArray ++ cap) w1 fun e w2 => e = .returned v ∧ C w2
  | _ => False
def qg (P : Program) (C : World → Prop) (all : List Oper) (w : World) (t0 : Nat → Value) : List Oper → List (Nat × Value) → FL → (FL → Prop) → Prop
  | [], _, L, K => K L
  | o :: rest, R, L, K =>
    let next : Value → Prop := fun v => match o.dst with
      | none => qg P C all w t0 rest R L K
      | some d => match o.guard with
        | none => qg P C all w t0 rest R ((d, some v) :: L) K
        | some _ => qg P C all w t0 rest ((d, v) :: R) ((d, none) :: L) K
    match o.op with
    | .pick c a b => gimp (lkG t0 L R) (gchain all 8 o.guard) (IsB (rho (lkG t0 L R) c)) ∧
        next (pk (rho (lkG t0 L R) c) (rho (lkG t0 L R) a) (rho (lkG t0 L R) b))
    | .call c => match c.callee with
      | .value f => ∃ v, gimp (lkG t0 L R) (gchain all 8 o.guard) (PC P C (rho (lkG t0 L R) f) (c.args.toList.map (rho (lkG t0 L R))) v) ∧ next v
      | f => qcall P (rho (lkG t0 L R)) f c.args.toList c.argTypes.toList fun ob v => gimp (lkG t0 L R) (gchain all 8 o.guard) ob ∧ next v
    | op => qop P w (rho (lkG t0 L R)) op fun ob v => gimp (lkG t0 L R) (gchain all 8 o.guard) ob ∧ next v
def sub (cs G : List (Nat × Bool)) : Bool := cs.all fun c => G.any fun g => g.1 == c.1 && g.2 == c.2
def useK (defs : List (Nat × List (Nat × Bool))) (G : List (Nat × Bool)) (k : Nat) : Bool := defs.all fun d => !(d.1 == k) || sub d.2 G
def useO (defs : List (Nat × List (Nat × Bool))) (G : List (Nat × Bool)) : Operand → Bool
  | .tmp k => useK defs G k
  | _ => true
def stat (n : Nat) (all : List Oper) : List Oper → List (Nat × List (Nat × Bool)) → Bool
  | [], _ => true
  | o :: rest, defs =>
    let G := gchain all 8 o.guard
    (match o.guard with
      | none => true
      | some (i, want) => match all[i]? with
        | some oi => match oi.dst with
          | some s => defs.any (fun d => d.1 == s && (sub (gchain all 8 oi.guard) d.2) && sub d.2 (gchain all 8 oi.guard)) && G == (s, want) :: gchain all 8 oi.guard
          | none => false
        | none => false) &&
    (match o.op with
      | .pick c a b => useO defs G c && (match c with
          | .tmp k => useO defs ((k, true) :: G) a && useO defs ((k, false) :: G) b
          | _ => useO defs G a && useO defs G b)
      | .select _ _ => false
      | op => op.operands.all (useO defs G)) &&
    match o.dst with
    | none => stat n all rest defs
    | some d => decide (d < n) && defs.all (fun e => !(e.1 == d)) && G.all (fun e => !(e.1 == d)) && stat n all rest ((d, G) :: defs)
def hold (a : Act) (cs : List (Nat × Bool)) : Prop := ∀ c ∈ cs, a.tmps.getD c.1 undef = .bool c.2
theorem hold_sub {a : Act} {cs G : List (Nat × Bool)} (h : sub cs G = true) (hG : hold a G) : hold a cs := by
  intro c hc
  unfold sub at h
  have := List.all_eq_true.1 h c hc
  obtain ⟨g, hg, he⟩ := List.any_eq_true.1 this
  simp only [Bool.and_eq_true, beq_iff_eq] at he
  have := hG g hg
  rw [he.1, he.2] at this
  exact this
structure Inv (n : Nat) (ds : List DF) (t0 : Nat → Value) (defs : List (Nat × List (Nat × Bool))) (R : List (Nat × Value)) (L : FL) (a : Act) : Prop where
  size : a.tmps.size = n
  defers : a.defers = marks ds
  out : ∀ k, (∀ d ∈ defs, d.1 ≠ k) → a.tmps.getD k undef = lkG t0 L R k
  in_ : ∀ d ∈ defs, (hold a d.2 → a.tmps.getD d.1 undef = lkG t0 L R d.1) ∧ (¬ hold a d.2 → a.tmps.getD d.1 undef = undef)
  plain : ∀ k v, fnd L k = some v → a.tmps.getD k undef = v
  cl : ∀ d ∈ defs, ∀ c ∈ d.2, ∃ e ∈ defs, e.1 = c.1
  rin : ∀ e ∈ R, ∃ d ∈ defs, d.1 = e.1
theorem lkG_out (t0 : Nat → Value) (L : FL) (k : Nat) : ∀ R : List (Nat × Value), (∀ e ∈ R, e.1 ≠ k) → lkG t0 L R k = lk t0 L k
  | [], _ => rfl
  | (e, v) :: r, h => by
    have h1 : e ≠ k := h (e, v) (List.mem_cons_self ..)
    simp only [lkG, h1, if_false]
    exact lkG_out t0 L k r fun x hx => h x (List.mem_cons_of_mem _ hx)
theorem put_getD_same {a : Act} {d : Nat} (v : Value) (h : d < a.tmps.size) : (a.put (some d) v).tmps.getD d undef = v := by
  simp [Act.put, Array.getD, h]
theorem put_getD_ne {a : Act} {d k : Nat} (v : Value) (h : d ≠ k) : (a.put (some d) v).tmps.getD k undef = a.tmps.getD k undef := by
  simp only [Act.put, Array.getD_eq_getD_getElem?, Array.getElem?_setIfInBounds, h, if_false]
theorem put_size {a : Act} {d : Option Nat} (v : Value) : (a.put d v).tmps.size = a.tmps.size := by cases d <;> simp [Act.put]
theorem put_defers {a : Act} {d : Option Nat} (v : Value) : (a.put d v).defers = a.defers := by cases d <;> simp [Act.put]
theorem lk_ne (t0 : Nat → Value) (L : FL) {d k : Nat} (o : Option Value) (h : d ≠ k) : lk t0 ((d, o) :: L) k = lk t0 L k := by cases o <;> simp [lk, h]
theorem lkG_ne (t0 : Nat → Value) (L : FL) {d k : Nat} (o : Option Value) (h : d ≠ k) : ∀ R : List (Nat × Value), lkG t0 ((d, o) :: L) R k = lkG t0 L R k
  | [] => lk_ne t0 L o h
  | (e, v) :: r => by simp only [lkG]; rw [lkG_ne t0 L o h r]
theorem Inv.none {n : Nat} {ds : List DF} {t0 : Nat → Value} {defs : List (Nat × List (Nat × Bool))} {R : List (Nat × Value)} {L : FL} {a : Act} (h : Inv n ds t0 defs R L a) (v : Value) : Inv n ds t0 defs R L (a.put Option.none v) := h
theorem hold_put {a : Act} {d : Nat} {v : Value} {cs : List (Nat × Bool)} (h : ∀ c ∈ cs, d ≠ c.1) : hold (a.put (some d) v) cs ↔ hold a cs := by
  constructor
  · intro hh c hc; have := hh c hc; rwa [put_getD_ne v (h c hc)] at this
  · intro hh c hc; rw [put_getD_ne v (h c hc)]; exact hh c hc
theorem Inv.put {n : Nat} {ds : List DF} {t0 : Nat → Value} {defs : List (Nat × List (Nat × Bool))} {R R' : List (Nat × Value)} {L L' : FL} {a : Act} (h : Inv n ds t0 defs R L a) {d : Nat} {u : Value} {G : List (Nat × Bool)}
    (hd : d < n) (hn : ∀ e ∈ defs, e.1 ≠ d) (hG : ∀ c ∈ G, ∃ e ∈ defs, e.1 = c.1)
    (hl : ∀ k, d ≠ k → lkG t0 L' R' k = lkG t0 L R k) (h1 : hold a G → u = lkG t0 L' R' d) (h2 : ¬ hold a G → u = undef)
    (hp : ∀ k v, fnd L' k = some v → (k = d ∧ v = u) ∨ (k ≠ d ∧ fnd L k = some v)) (hR : ∀ e ∈ R', e ∈ R ∨ e.1 = d) :
    Inv n ds t0 ((d, G) :: defs) R' L' (a.put (some d) u) := by
  have hsz : d < a.tmps.size := by rw [h.size]; exact hd
  have hGne : ∀ c ∈ G, d ≠ c.1 := fun c hc e => by obtain ⟨x, hx, hxe⟩ := hG c hc; exact hn x hx (by rw [hxe, e])
  have hcs : ∀ e ∈ defs, ∀ c ∈ e.2, d ≠ c.1 := fun e he c hc x => by obtain ⟨y, hy, hye⟩ := h.cl e he c hc; exact hn y hy (by rw [hye, x])
  refine ⟨by rw [put_size]; exact h.size, by rw [put_defers]; exact h.defers, ?_, ?_, ?_, ?_, fun e he => ?_⟩
  rotate_right
  · rcases hR e he with he | he
    · obtain ⟨x, hx, hxe⟩ := h.rin e he
      exact ⟨x, List.mem_cons_of_mem _ hx, hxe⟩
    · exact ⟨(d, G), List.mem_cons_self .., he.symm⟩
  · intro k hk
    have hdk : d ≠ k := hk (d, G) (List.mem_cons_self ..)
    rw [put_getD_ne u hdk, hl k hdk]
    exact h.out k fun e he => hk e (List.mem_cons_of_mem _ he)
  · intro e he
    rcases List.mem_cons.1 he with rfl | he
    · simp only
      rw [hold_put hGne, put_getD_same u hsz]
      exact ⟨h1, h2⟩
    · rw [hold_put (hcs e he), put_getD_ne u (Ne.symm (hn e he)), hl _ (Ne.symm (hn e he))]
      exact h.in_ e he
  · intro k v hk
    rcases hp k v hk with ⟨rfl, rfl⟩ | ⟨hne, hk⟩
    · exact put_getD_same _ hsz
    · rw [put_getD_ne u (Ne.symm hne)]; exact h.plain k v hk
  · intro e he c hc
    rcases List.mem_cons.1 he with rfl | he
    · obtain ⟨x, hx, hxe⟩ := hG c hc
      exact ⟨x, List.mem_cons_of_mem _ hx, hxe⟩
    · obtain ⟨x, hx, hxe⟩ := h.cl e he c hc
      exact ⟨x, List.mem_cons_of_mem _ hx, hxe⟩
theorem Inv.use {n : Nat} {ds : List DF} {t0 : Nat → Value} {defs : List (Nat × List (Nat × Bool))} {R : List (Nat × Value)} {L : FL} {a : Act} (h : Inv n ds t0 defs R L a) {G : List (Nat × Bool)} (hG : hold a G) {k : Nat}
    (hu : useK defs G k = true) : a.tmps.getD k undef = lkG t0 L R k := by
  by_cases hk : ∃ d ∈ defs, d.1 = k
  · obtain ⟨d, hd, rfl⟩ := hk
    have := List.all_eq_true.1 hu d hd
    simp at this
    exact (h.in_ d hd).1 (hold_sub this hG)
  · exact h.out k fun d hd e => hk ⟨d, hd, e⟩
theorem Inv.useO {n : Nat} {ds : List DF} {t0 : Nat → Value} {defs : List (Nat × List (Nat × Bool))} {R : List (Nat × Value)} {L : FL} {a : Act} (h : Inv n ds t0 defs R L a) {G : List (Nat × Bool)} (hG : hold a G) {x : Operand}
    (hu : Fk.useO defs G x = true) : a.eval x = rho (lkG t0 L R) x := by
  cases x with
  | tmp k => exact h.use hG hu
  | const v => rfl
  | global g => rfl
  | func f => rfl
theorem wanted_iff {all : List Oper} {o : Oper} {a : Act} {i : Nat} {want : Bool} {oi : Oper} {s : Nat} (hg : o.guard = some (i, want)) (hi : all[i]? = some oi) (hs : oi.dst = some s) :
    Region.wanted o (yielded all.toArray a.tmps) = true ↔ a.tmps.getD s undef = .bool want := by
  simp only [Region.wanted, hg, yielded, List.getElem?_toArray, hi, Option.bind_some, hs, Array.getD_eq_getD_getElem?]
  cases hc : a.tmps[s]? with
  | none => simp [undef]
  | some v => cases v <;> simp
theorem gimp_of {l : Nat → Value} {ob : Prop} : ∀ (G : List (Nat × Bool)), (∀ c ∈ G, l c.1 = .bool c.2) → gimp l G ob → ob
  | [], _, h => h
  | (s, b) :: r, hl, h => gimp_of r (fun c hc => hl c (List.mem_cons_of_mem _ hc)) (h (hl (s, b) (List.mem_cons_self ..)))
theorem stat_guard {n : Nat} {ds : List DF} {t0 : Nat → Value} {all : List Oper} {o : Oper} {defs : List (Nat × List (Nat × Bool))} {R : List (Nat × Value)} {L : FL} {a : Act} (h : Inv n ds t0 defs R L a)
    (hs : (match o.guard with
      | none => true
      | some (i, want) => match all[i]? with
        | some oi => match oi.dst with
          | some s => defs.any (fun d => d.1 == s && (sub (gchain all 8 oi.guard) d.2) && sub d.2 (gchain all 8 oi.guard)) && gchain all 8 o.guard == (s, want) :: gchain all 8 oi.guard
          | none => false
        | none => false) = true) :
    (Region.wanted o (yielded all.toArray a.tmps) = true → hold a (gchain all 8 o.guard) ∧ ∀ c ∈ gchain all 8 o.guard, lkG t0 L R c.1 = .bool c.2) ∧
    (Region.wanted o (yielded all.toArray a.tmps) ≠ true → ¬ hold a (gchain all 8 o.guard)) ∧ (∀ c ∈ gchain all 8 o.guard, ∃ e ∈ defs, e.1 = c.1) := by
  cases hg : o.guard with
  | none => simp [Region.wanted, hg, gchain, hold]
  | some p =>
    obtain ⟨i, want⟩ := p
    rw [hg] at hs
    simp only at hs
    split at hs
    · rename_i oi hi
      split at hs
      · rename_i s hds
        rw [Bool.and_eq_true, beq_iff_eq] at hs
        obtain ⟨hany, hG⟩ := hs
        obtain ⟨e, he, hee⟩ := List.any_eq_true.1 hany
        simp only [Bool.and_eq_true, beq_iff_eq] at hee
        obtain ⟨⟨he1, he2⟩, he3⟩ := hee
        rw [hG]
        have hw := wanted_iff (a := a) hg hi hds
        have key : a.tmps.getD s undef = .bool want → hold a ((s, want) :: gchain all 8 oi.guard) := by
          intro hv
          have hh : hold a e.2 := by
            by_cases hh : hold a e.2
            · exact hh
            · have := (h.in_ e he).2 hh
              rw [he1, hv] at this
              cases this
          intro c hc
          rcases List.mem_cons.1 hc with rfl | hc
          · exact hv
          · exact hold_sub he2 hh c hc
        refine ⟨fun hwt => ?_, fun hwt hh => hwt (hw.2 (hh (s, want) (List.mem_cons_self ..))), ?_⟩
        · have hH := key (hw.1 hwt)
          refine ⟨hH, fun c hc => ?_⟩
          rw [← hH c hc]
          symm
          rcases List.mem_cons.1 hc with rfl | hc'
          · have := (h.in_ e he).1 (hold_sub he3 (fun c hc => hH c (List.mem_cons_of_mem _ hc)))
            rw [he1] at this; exact this
          · -- a slot deeper in the chain
            obtain ⟨g, hg', hge⟩ : ∃ g ∈ e.2, g.1 = c.1 := by
              have := List.all_eq_true.1 he2 c hc'
              obtain ⟨g, hg1, hg2⟩ := List.any_eq_true.1 this
              simp only [Bool.and_eq_true, beq_iff_eq] at hg2
              exact ⟨g, hg1, hg2.1⟩
            obtain ⟨f, hf, hfe⟩ := h.cl e he g hg'
            have h3 := h.in_ f hf
            rw [hfe, hge] at h3
            by_cases hh : hold a f.2
            · exact h3.1 hh
            · have := h3.2 hh
              rw [hH c hc] at this
              cases this
        · intro c hc
          rcases List.mem_cons.1 hc with rfl | hc'
          · exact ⟨e, he, he1⟩
          · have := List.all_eq_true.1 he2 c hc'
            obtain ⟨g, hg1, hg2⟩ := List.any_eq_true.1 this
            simp only [Bool.and_eq_true, beq_iff_eq] at hg2
            obtain ⟨f, hf, hfe⟩ := h.cl e he g hg1
            exact ⟨f, hf, hfe.trans hg2.1⟩
      · cases hs
    · cases hs
theorem stat_one {n : Nat} {ds : List DF} {t0 : Nat → Value} {all : List Oper} {o : Oper} {defs : List (Nat × List (Nat × Bool))} {R : List (Nat × Value)} {L : FL} {a : Act} (h : Inv n ds t0 defs R L a)
    (hs : (match o.guard with
      | none => true
      | some (i, want) => match all[i]? with
        | some oi => match oi.dst with
          | some s => defs.any (fun d => d.1 == s && (sub (gchain all 8 oi.guard) d.2) && sub d.2 (gchain all 8 oi.guard)) && gchain all 8 o.guard == (s, want) :: gchain all 8 oi.guard
          | none => false
        | none => false) = true) {s : Nat} {b : Bool} (hG : gchain all 8 o.guard = [(s, b)]) :
    a.tmps.getD s undef = lkG t0 L R s ∧ (Region.wanted o (yielded all.toArray a.tmps) = true ↔ a.tmps.getD s undef = .bool b) := by
  cases hg : o.guard with
  | none => rw [hg] at hG; simp [gchain] at hG
  | some p =>
    obtain ⟨i, want⟩ := p
    rw [hg] at hs
    simp only at hs
    split at hs
    · rename_i oi hi
      split at hs
      · rename_i s' hds
        rw [Bool.and_eq_true, beq_iff_eq] at hs
        obtain ⟨hany, hG'⟩ := hs
        rw [← hg, hG] at hG'
        injection hG' with h1 h2
        cases h1
        obtain ⟨e, he, hee⟩ := List.any_eq_true.1 hany
        simp only [Bool.and_eq_true, beq_iff_eq] at hee
        obtain ⟨⟨he1, he2⟩, he3⟩ := hee
        rw [← h2] at he3
        have hh : hold a e.2 := fun c hc => by
          have := List.all_eq_true.1 he3 c hc
          simp at this
        have := (h.in_ e he).1 hh
        rw [he1] at this
        exact ⟨this, wanted_iff hg hi hds⟩
      · cases hs
    · cases hs
theorem gEff_of {n : Nat} {ds : List DF} {t0 : Nat → Value} {all : List Oper} {o : Oper} {defs : List (Nat × List (Nat × Bool))} {R : List (Nat × Value)} {L : FL} {a : Act} {yes no : Prop} (h : Inv n ds t0 defs R L a)
    (hone : ∀ s b, gchain all 8 o.guard = [(s, b)] → a.tmps.getD s undef = lkG t0 L R s ∧ (Region.wanted o (yielded all.toArray a.tmps) = true ↔ a.tmps.getD s undef = .bool b))
    (hnw : Region.wanted o (yielded all.toArray a.tmps) ≠ true → ¬ hold a (gchain all 8 o.guard)) (he : gEff (lkG t0 L R) (gchain all 8 o.guard) yes no) :
    (Region.wanted o (yielded all.toArray a.tmps) = true → yes) ∧ (Region.wanted o (yielded all.toArray a.tmps) ≠ true → no) := by
  unfold gEff at he
  split at he
  · rename_i hG
    exact ⟨fun _ => he, fun hn => (hnw hn (by rw [hG]; simp [hold])).elim⟩
  · rename_i s b hG
    obtain ⟨h1, h2⟩ := hone s b hG
    rcases he with ⟨hv, hy⟩ | ⟨hv, hn⟩
    · exact ⟨fun _ => hy, fun hn => (hn (h2.2 (by rw [h1, hv]))).elim⟩
    · refine ⟨fun hw => ?_, fun _ => hn⟩
      have := h2.1 hw
      rw [h1, hv] at this
      simp at this
  · exact he.elim
theorem gEff_opt {n : Nat} {ds : List DF} {t0 : Nat → Value} {all : List Oper} {o : Oper} {defs : List (Nat × List (Nat × Bool))} {R : List (Nat × Value)} {L : FL} {a : Act} {yes no : Prop} (h : Inv n ds t0 defs R L a)
    (hone : ∀ s b, gchain all 8 o.guard = [(s, b)] → a.tmps.getD s undef = lkG t0 L R s ∧ (Region.wanted o (yielded all.toArray a.tmps) = true ↔ a.tmps.getD s undef = .bool b))
    (hnw : Region.wanted o (yielded all.toArray a.tmps) ≠ true → ¬ hold a (gchain all 8 o.guard)) (he : match o.guard with | none => yes | some _ => gEff (lkG t0 L R) (gchain all 8 o.guard) yes no) :
    (Region.wanted o (yielded all.toArray a.tmps) = true → yes) ∧ (Region.wanted o (yielded all.toArray a.tmps) ≠ true → no) := by
  cases hg : o.guard with
  | none =>
    rw [hg] at he
    exact ⟨fun _ => he, fun hn => (hn (by simp [Region.wanted, hg])).elim⟩
  | some g =>
    rw [hg] at he
    simp only at he
    rw [← hg] at he
    exact gEff_of h hone hnw he
theorem callFunc_run {P : Program} {g : FuncId} {args : Array Value} {w : World} (h : callable P g = true) : (callFunc g args).run P w = .ok (.enter g args) w := by
  unfold callable at h
  split at h
  · rename_i fn hfn
    simp only [Bool.and_eq_true, Bool.not_eq_true', beq_eq_false_iff_ne] at h
    have hb : ¬ fn.body = none := by intro hb; rw [hb] at h; simp at h
    simp [callFunc, hfn, h.2, hb]
  · cases h
theorem qg_step {P : Program} {C : World → Prop} {w : World} (hC : ∀ w', C w' → Ext w w') {all : List Oper} {t0 : Nat → Value} {o : Oper} {rest : List Oper} {R : List (Nat × Value)} {L : FL} {K : FL → Prop} {a : Act} {n : Nat} {ds : List DF}
    {defs : List (Nat × List (Nat × Bool))} (h : Inv n ds t0 defs R L a)
    (hw : Region.wanted o (yielded all.toArray a.tmps) = true → hold a (gchain all 8 o.guard) ∧ ∀ c ∈ gchain all 8 o.guard, lkG t0 L R c.1 = .bool c.2)
    (hu : (match o.op with
      | .pick c x y => useO defs (gchain all 8 o.guard) c && (match c with
          | .tmp k => useO defs ((k, true) :: gchain all 8 o.guard) x && useO defs ((k, false) :: gchain all 8 o.guard) y
          | _ => useO defs (gchain all 8 o.guard) x && useO defs (gchain all 8 o.guard) y)
      | .select _ _ => false
      | op => op.operands.all (useO defs (gchain all 8 o.guard))) = true)
    (hq : qg P C all w t0 (o :: rest) R L K) :
    ∃ v, (Region.wanted o (yielded all.toArray a.tmps) = true → ∀ w', C w' → o.quietAt P a C w' v) ∧
      (match o.dst with
      | none => qg P C all w t0 rest R L K
      | some d => match o.guard with
        | none => qg P C all w t0 rest R ((d, some v) :: L) K
        | some _ => qg P C all w t0 rest ((d, v) :: R) ((d, none) :: L) K) := by
  have hsel : (∀ c x y, o.op ≠ .pick c x y) → (Region.wanted o (yielded all.toArray a.tmps) = true → execOp a.eval o = execOp (rho (lkG t0 L R)) o) := by
    intro hnp hwt
    obtain ⟨hh, _⟩ := hw hwt
    split at hu
    · rename_i c x y hop; exact (hnp c x y hop).elim
    · cases hu
    · rename_i op h1 h2 
      refine execOp_congr o (fun cs b e => h2 cs b e) fun x hx => h.useO hh ?_
      exact Array.all_eq_true_iff_forall_mem.1 hu x hx
  unfold qg at hq
  simp only at hq
  split at hq
  · -- pick
    rename_i c x y hop
    obtain ⟨hb, hq⟩ := hq
    refine ⟨_, fun hwt w' hw' => ?_, hq⟩
    obtain ⟨hh, hl⟩ := hw hwt
    have hB := gimp_of _ hl hb
    rw [hop] at hu
    simp only [Bool.and_eq_true] at hu
    have hc := h.useO hh hu.1
    obtain ⟨b, hbv⟩ := hB.ex
    unfold Oper.quietAt
    have hx : a.eval (if b then x else y) = rho (lkG t0 L R) (if b then x else y) := by
      rw [hbv] at hc
      cases c with
      | tmp k =>
        simp only [Bool.and_eq_true] at hu
        cases b
        · exact h.useO (G := (k, false) :: gchain all 8 o.guard) (fun c hc' => by rcases List.mem_cons.1 hc' with rfl | h'; exact hc; exact hh c h') hu.2.2
        · exact h.useO (G := (k, true) :: gchain all 8 o.guard) (fun c hc' => by rcases List.mem_cons.1 hc' with rfl | h'; exact hc; exact hh c h') hu.2.1
      | const v => simp only [Bool.and_eq_true] at hu; cases b; exact h.useO hh hu.2.2; exact h.useO hh hu.2.1
      | global v => simp only [Bool.and_eq_true] at hu; cases b; exact h.useO hh hu.2.2; exact h.useO hh hu.2.1
      | func v => simp only [Bool.and_eq_true] at hu; cases b; exact h.useO hh hu.2.2; exact h.useO hh hu.2.1
    rw [hbv] at hc ⊢
    have hrun : (execOp a.eval o).run P w' = .ok (.value (if b then a.eval x else a.eval y)) w' := by
      simp [execOp, hop, hc, asBool]
    rw [hrun]
    refine ⟨rfl, ?_⟩
    cases b
    · rw [pk_false]; exact hx
    · rw [pk_true]; exact hx
  · -- a call
    rename_i c hop
    split at hq
    · rename_i f hf
      obtain ⟨v, hb, hq⟩ := hq
      refine ⟨v, fun hwt w' hw' => ?_, hq⟩
      obtain ⟨hh, hl⟩ := hw hwt
      have hB := gimp_of _ hl hb
      unfold Oper.quietAt
      rw [hsel (fun c x y e => by rw [hop] at e; cases e) hwt]
      unfold PC at hB
      split at hB
      · rename_i g fi cap hfv
        have hrun : (execOp (rho (lkG t0 L R)) o).run P w' = .ok (.enter g (fi ++ (c.args.toList.map (rho (lkG t0 L R))).toArray ++ cap)) w' := by
          simp only [execOp, hop, resolve, hf, Sem.run_bind, hfv, Deferred.ofValue, Sem.run_pure, Result.andThen_ok, invoke]
          rw [callFunc_run hB.1, ← Array.toList_map, Array.toArray_toList, Array.append_assoc]
        rw [hrun]
        exact ⟨rfl, hB.2 w' hw'⟩
      · exact hB.elim
    · have hq' : qop P w (rho (lkG t0 L R)) o.op fun ob v => gimp (lkG t0 L R) (gchain all 8 o.guard) ob ∧ (match o.dst with
          | none => qg P C all w t0 rest R L K
          | some d => match o.guard with
            | none => qg P C all w t0 rest R ((d, some v) :: L) K
            | some _ => qg P C all w t0 rest ((d, v) :: R) ((d, none) :: L) K) := by
        rw [hop]; exact hq
      obtain ⟨ob, v, ⟨hb, hq⟩, hrun⟩ := qop_sound hq'
      refine ⟨v, fun hwt w' hw' => ?_, hq⟩
      obtain ⟨hh, hl⟩ := hw hwt
      have hB := gimp_of _ hl hb
      unfold Oper.quietAt
      rw [hsel (fun c x y e => by rw [hop] at e; cases e) hwt, hrun hB w' (fun _ => hC w' hw')]
      exact ⟨rfl, rfl⟩
  · -- any other
    rename_i op hnp hnc
    have hq' := hq
    obtain ⟨ob, v, ⟨hb, hq⟩, hrun⟩ := qop_sound hq'
    refine ⟨v, fun hwt w' hw' => ?_, hq⟩
    obtain ⟨hh, hl⟩ := hw hwt
    have hB := gimp_of _ hl hb
    unfold Oper.quietAt
    rw [hsel (fun c x y e => hnp c x y e) hwt, hrun hB w' (fun _ => hC w' hw')]
    exact ⟨rfl, rfl⟩
theorem qg_sound {P : Program} {C : World → Prop} {w : World} (hC : ∀ w', C w' → Ext w w') {n : Nat} {ds : List DF} {all : List Oper} {t0 : Nat → Value} {K : FL → Prop} :
    ∀ (rest : List Oper) (defs : List (Nat × List (Nat × Bool))) (R : List (Nat × Value)) (L : FL) (a : Act), Inv n ds t0 defs R L a → stat n all rest defs = true →
      qg P C all w t0 rest R L K → wpQuiet P all.toArray C (fun a' => ∃ L', Fr n ds L' a' ∧ K L') rest a
  | [], defs, R, L, a, h, _, hq => ⟨L, ⟨h.size, h.defers, h.plain⟩, hq⟩
  | o :: rest, defs, R, L, a, h, hs, hq => by
    unfold stat at hs
    simp only [Bool.and_eq_true] at hs
    obtain ⟨⟨hs1, hs2⟩, hs3⟩ := hs
    obtain ⟨hw, hnw, hcl⟩ := stat_guard h hs1
    obtain ⟨v, hv, hnext⟩ := qg_step hC h hw hs2 hq
    unfold wpQuiet
    cases hd : o.dst with
    | none =>
      rw [hd] at hs3 hnext
      simp only at hs3 hnext
      by_cases hwt : Region.wanted o (yielded all.toArray a.tmps) = true
      · rw [if_pos hwt]
        exact ⟨v, hv hwt, by rw [hd]; exact qg_sound hC rest defs R L _ (h.none v) hs3 hnext⟩
      · rw [if_neg hwt]
        exact qg_sound hC rest defs R L _ (h.none undef) hs3 hnext
    | some d =>
      rw [hd] at hs3 hnext
      simp only [Bool.and_eq_true, decide_eq_true_eq] at hs3 hnext
      obtain ⟨⟨⟨hdn, hdd⟩, _⟩, hs3⟩ := hs3
      have hne : ∀ e ∈ defs, e.1 ≠ d := fun e he hx => by have := List.all_eq_true.1 hdd e he; simp [hx] at this
      cases hg : o.guard with
      | none =>
        rw [hg] at hnext
        simp only at hnext
        have hwt : Region.wanted o (yielded all.toArray a.tmps) = true := by simp [Region.wanted, hg]
        rw [if_pos hwt]
        refine ⟨v, hv hwt, ?_⟩
        rw [hd]
        have hG0 : gchain all 8 o.guard = [] := by rw [hg]; rfl
        rw [hG0] at hs3
        refine qg_sound hC rest ((d, []) :: defs) R _ _ (h.put (G := []) hdn hne (by simp) (fun k hk => lkG_ne t0 L _ hk R) ?_ ?_ ?_ (fun e he => .inl he)) hs3 hnext
        · intro _
          rw [lkG_out t0 _ d R fun e he hx => by obtain ⟨x, hx1, hx2⟩ := h.rin e he; exact hne x hx1 (hx2.trans hx)]
          simp [lk]
        · intro hh; exact (hh (by simp [hold])).elim
        · intro k u hk
          by_cases hkd : d = k
          · subst hkd; simp [fnd] at hk; exact .inl ⟨rfl, hk.symm⟩
          · simp [fnd, hkd] at hk; exact .inr ⟨Ne.symm hkd, hk⟩
      | some g =>
        rw [hg] at hnext
        simp only at hnext
        have hl : ∀ k, d ≠ k → lkG t0 ((d, none) :: L) ((d, v) :: R) k = lkG t0 L R k := fun k hk => by
          simp only [lkG, hk, if_false]; exact lkG_ne t0 L _ hk R
        have hp : ∀ (u : Value) (k : Nat) (x : Value), fnd ((d, none) :: L) k = some x → (k = d ∧ x = u) ∨ (k ≠ d ∧ fnd L k = some x) := fun u k x hk => by
          by_cases hkd : d = k
          · subst hkd; simp [fnd] at hk
          · simp [fnd, hkd] at hk; exact .inr ⟨Ne.symm hkd, hk⟩
        have hRR : ∀ e ∈ (d, v) :: R, e ∈ R ∨ e.1 = d := fun e he => by
          rcases List.mem_cons.1 he with rfl | he
          · exact .inr rfl
          · exact .inl he
        by_cases hwt : Region.wanted o (yielded all.toArray a.tmps) = true
        · rw [if_pos hwt]
          refine ⟨v, hv hwt, ?_⟩
          rw [hd]
          exact qg_sound hC rest _ _ _ _ (h.put hdn hne hcl hl (fun _ => by simp [lkG]) (fun hh => (hh (hw hwt).1).elim) (hp v) hRR) hs3 hnext
        · rw [if_neg hwt]
          exact qg_sound hC rest _ _ _ _ (h.put hdn hne hcl hl (fun hh => (hnw hwt hh).elim) (fun _ => rfl) (hp undef) hRR) hs3 hnext
def SemW (P : Program) {α : Type} (s : Sem α) (w : World) (K : α → World → Prop) : Prop :=
  match s.run P w with
  | .ok v w' => K v w'
  | .halt _ _ => False
def CallW (P : Program) (f : Value) (args : List Value) (w : World) (K : Value → World → Prop) : Prop :=
  match f with
  | .func (.func g) fi cap => callable P g = true ∧ Calls P g (fi ++ args.toArray ++ cap) w fun e w' => ∃ v, e = .returned v ∧ K v w'
  | .func (.yield l) fi _ => YieldAt (fw none) 0 P l (fi ++ args.toArray) w fun e w' => ∃ v, e = .returned v ∧ K v w'
  | _ => False
theorem SemW.of_run {P : Program} {α : Type} {s : Sem α} {w w' : World} {K : α → World → Prop} {v : α} (h : s.run P w = .ok v w') (hK : K v w') : SemW P s w K := by
  unfold SemW; rw [h]; exact hK
theorem SemW.mono {P : Program} {α : Type} {s : Sem α} {w : World} {K K' : α → World → Prop} (h : SemW P s w K) (hK : ∀ v w', K v w' → K' v w') : SemW P s w K' := by
  unfold SemW at *; split <;> simp_all
theorem SemW.ex {P : Program} {α : Type} {s : Sem α} {w : World} {K : α → World → Prop} (h : SemW P s w K) : ∃ v w', s.run P w = .ok v w' ∧ K v w' := by
  unfold SemW at h; split at h
  · exact ⟨_, _, by assumption, h⟩
  · exact h.elim
def eg (P : Program) (all : List Oper) (t0 : Nat → Value) : List Oper → List (Nat × Value) → FL → World → (FL → World → Prop) → Prop
  | [], _, L, w, K => K L w
  | o :: rest, R, L, w, K =>
    let next : Value → World → Prop := fun v w' => match o.dst with
      | none => eg P all t0 rest R L w' K
      | some d => match o.guard with
        | none => eg P all t0 rest R ((d, some v) :: L) w' K
        | some _ => eg P all t0 rest ((d, v) :: R) ((d, none) :: L) w' K
    let nextS : Value → World → Prop := fun v w' => @hush ⟨next v w'⟩
    match o.op with
    | .pick c a b => gimp (lkG t0 L R) (gchain all 8 o.guard) (IsB (rho (lkG t0 L R) c)) ∧
        next (pk (rho (lkG t0 L R) c) (rho (lkG t0 L R) a) (rho (lkG t0 L R) b)) w
    | .call c => match c.callee with
      | .value f => if o.guard.isNone = true then CallW P (rho (lkG t0 L R) f) (c.args.toList.map (rho (lkG t0 L R))) w next
        else gEff (lkG t0 L R) (gchain all 8 o.guard) (CallW P (rho (lkG t0 L R) f) (c.args.toList.map (rho (lkG t0 L R))) w nextS) (nextS undef w) ∨ ∃ v, gimp (lkG t0 L R) (gchain all 8 o.guard) (PC P (Ext w) (rho (lkG t0 L R) f) (c.args.toList.map (rho (lkG t0 L R))) v) ∧ ∀ w', Ext w w' → nextS v w'
      | .builtin .append => match o.guard with | none => SemW P (Builtin.append_ c.argTypes o.type (c.args.map (rho (lkG t0 L R)))) w next | some _ => gEff (lkG t0 L R) (gchain all 8 o.guard) (SemW P (Builtin.append_ c.argTypes o.type (c.args.map (rho (lkG t0 L R)))) w nextS) (nextS undef w)
      | .builtin .copy => match o.guard with | none => SemW P (Builtin.copy_ c.argTypes o.type (c.args.map (rho (lkG t0 L R)))) w next | some _ => gEff (lkG t0 L R) (gchain all 8 o.guard) (SemW P (Builtin.copy_ c.argTypes o.type (c.args.map (rho (lkG t0 L R)))) w nextS) (nextS undef w)
      | .builtin .delete => match o.guard with | none => SemW P (Builtin.delete_ c.argTypes o.type (c.args.map (rho (lkG t0 L R)))) w next | some _ => gEff (lkG t0 L R) (gchain all 8 o.guard) (SemW P (Builtin.delete_ c.argTypes o.type (c.args.map (rho (lkG t0 L R)))) w nextS) (nextS undef w)
      | f => qcall P (rho (lkG t0 L R)) f c.args.toList c.argTypes.toList fun ob v => gimp (lkG t0 L R) (gchain all 8 o.guard) ob ∧ next v w
    | .alloc t => match o.guard with | none => SemW P (Instr.alloc t true (.tuple #[])) w next | some _ => gEff (lkG t0 L R) (gchain all 8 o.guard) (SemW P (Instr.alloc t true (.tuple #[])) w nextS) (nextS undef w)
    | .box t x => match o.guard with | none => SemW P (Instr.box t (rho (lkG t0 L R) x)) w next | some _ => gEff (lkG t0 L R) (gchain all 8 o.guard) (SemW P (Instr.box t (rho (lkG t0 L R) x)) w nextS) (nextS undef w)
    | .store t a x => match o.guard with | none => (SemW P (Instr.storeAt t (rho (lkG t0 L R) a) (rho (lkG t0 L R) x)) w fun _ w' => next undef w') | some _ => gEff (lkG t0 L R) (gchain all 8 o.guard) (SemW P (Instr.storeAt t (rho (lkG t0 L R) a) (rho (lkG t0 L R) x)) w fun _ w' => nextS undef w') (nextS undef w)
    | .buildSlice t n ps => match o.guard with | none => SemW P (Instr.buildSlice t n (ps.map fun p => (p.1, rho (lkG t0 L R) p.2))) w next | some _ => gEff (lkG t0 L R) (gchain all 8 o.guard) (SemW P (Instr.buildSlice t n (ps.map fun p => (p.1, rho (lkG t0 L R) p.2))) w nextS) (nextS undef w)
    | .makeSlice t l c => match o.guard with | none => SemW P (Instr.makeSlice t (rho (lkG t0 L R) l) (rho (lkG t0 L R) c)) w next | some _ => gEff (lkG t0 L R) (gchain all 8 o.guard) (SemW P (Instr.makeSlice t (rho (lkG t0 L R) l) (rho (lkG t0 L R) c)) w nextS) (nextS undef w)
    | .makeMap t r => match o.guard with | none => SemW P (Instr.makeMap t (r.map (rho (lkG t0 L R)))) w next | some _ => gEff (lkG t0 L R) (gchain all 8 o.guard) (SemW P (Instr.makeMap t (r.map (rho (lkG t0 L R)))) w nextS) (nextS undef w)
    | .mapUpdate t m k x => match o.guard with | none => (SemW P (Instr.mapUpdate t (rho (lkG t0 L R) m) (rho (lkG t0 L R) k) (rho (lkG t0 L R) x)) w fun _ w' => next undef w') | some _ => gEff (lkG t0 L R) (gchain all 8 o.guard) (SemW P (Instr.mapUpdate t (rho (lkG t0 L R) m) (rho (lkG t0 L R) k) (rho (lkG t0 L R) x)) w fun _ w' => nextS undef w') (nextS undef w)
    | .lookup t m k ok => match o.guard with | none => SemW P (Instr.lookup t (rho (lkG t0 L R) m) (rho (lkG t0 L R) k) ok) w next | some _ => gEff (lkG t0 L R) (gchain all 8 o.guard) (SemW P (Instr.lookup t (rho (lkG t0 L R) m) (rho (lkG t0 L R) k) ok) w nextS) (nextS undef w)
    | op => qop P w (rho (lkG t0 L R)) op fun ob v => gimp (lkG t0 L R) (gchain all 8 o.guard) ob ∧ next v w
def EStep (P : Program) (ops : Array Oper) (o : Oper) (a : Act) (w : World) (N : Value → World → Prop) : Prop :=
  (Region.wanted o (yielded ops a.tmps) = true →
    (∃ v w', (execOp a.eval o).run P w = .ok (.value v) w' ∧ N v w') ∨
    (∃ w', (execOp a.eval o).run P w = .ok .skip w' ∧ N undef w') ∨
    (∃ g args, (execOp a.eval o).run P w = .ok (.enter g args) w ∧ Calls P g args w fun e w' => ∃ v, e = .returned v ∧ N v w') ∨
    (∃ l g ts as bd, (execOp a.eval o).run P w = .ok (.round l g ts as bd) w ∧ RoundIn (fw none) 0 P l g ts as bd w fun e w' => ∃ v, e = .returned v ∧ N v w')) ∧
  (Region.wanted o (yielded ops a.tmps) ≠ true → ∃ v, N v w)
def eNext (P : Program) (all : List Oper) (t0 : Nat → Value) (o : Oper) (rest : List Oper) (R : List (Nat × Value)) (L : FL) (K : FL → World → Prop) (v : Value) (w' : World) : Prop :=
  match o.dst with
      | none => eg P all t0 rest R L w' K
      | some d => match o.guard with
        | none => eg P all t0 rest R ((d, some v) :: L) w' K
        | some _ => eg P all t0 rest ((d, v) :: R) ((d, none) :: L) w' K
theorem estep_sem {P : Program} {ops : Array Oper} {o : Oper} {a : Act} {w : World} {N : Value → World → Prop} {s : Sem Value} (h : (Region.wanted o (yielded ops a.tmps) = true → SemW P s w N) ∧ (Region.wanted o (yielded ops a.tmps) ≠ true → N undef w))
    (he : Region.wanted o (yielded ops a.tmps) = true → execOp a.eval o = (do pure (.value (← s)))) : EStep P ops o a w N := by
  refine ⟨fun hw => ?_, fun hn => ⟨_, h.2 hn⟩⟩
  obtain ⟨v, w', hr, hN⟩ := (h.1 hw).ex
  exact .inl ⟨v, w', by rw [he hw]; simp [hr], hN⟩
theorem estep_unit {P : Program} {ops : Array Oper} {o : Oper} {a : Act} {w : World} {N : Value → World → Prop} {s : Sem Unit} (h : (Region.wanted o (yielded ops a.tmps) = true → SemW P s w fun _ w' => N undef w') ∧ (Region.wanted o (yielded ops a.tmps) ≠ true → N undef w))
    (he : Region.wanted o (yielded ops a.tmps) = true → execOp a.eval o = (do s; pure .skip)) : EStep P ops o a w N := by
  refine ⟨fun hw => ?_, fun hn => ⟨_, h.2 hn⟩⟩
  obtain ⟨v, w', hr, hN⟩ := (h.1 hw).ex
  exact .inr (.inl ⟨w', by rw [he hw]; simp [hr], hN⟩)
theorem eg_step {P : Program} {all : List Oper} {w : World} {t0 : Nat → Value} {o : Oper} {rest : List Oper} {R : List (Nat × Value)} {L : FL} {K : FL → World → Prop} {a : Act} {n : Nat} {ds : List DF}
    {defs : List (Nat × List (Nat × Bool))} (h : Inv n ds t0 defs R L a)
    (hw : Region.wanted o (yielded all.toArray a.tmps) = true → hold a (gchain all 8 o.guard) ∧ ∀ c ∈ gchain all 8 o.guard, lkG t0 L R c.1 = .bool c.2)
    (hone : ∀ s b, gchain all 8 o.guard = [(s, b)] → a.tmps.getD s undef = lkG t0 L R s ∧ (Region.wanted o (yielded all.toArray a.tmps) = true ↔ a.tmps.getD s undef = .bool b))
    (hnw : Region.wanted o (yielded all.toArray a.tmps) ≠ true → ¬ hold a (gchain all 8 o.guard))
    (hu : (match o.op with
      | .pick c x y => useO defs (gchain all 8 o.guard) c && (match c with
          | .tmp k => useO defs ((k, true) :: gchain all 8 o.guard) x && useO defs ((k, false) :: gchain all 8 o.guard) y
          | _ => useO defs (gchain all 8 o.guard) x && useO defs (gchain all 8 o.guard) y)
      | .select _ _ => false
      | op => op.operands.all (useO defs (gchain all 8 o.guard))) = true)
    (hq : eg P all t0 (o :: rest) R L w K) : EStep P all.toArray o a w (eNext P all t0 o rest R L K) := by
  have hsel : (∀ c x y, o.op ≠ .pick c x y) → (Region.wanted o (yielded all.toArray a.tmps) = true → execOp a.eval o = execOp (rho (lkG t0 L R)) o) := by
    intro hnp hwt
    obtain ⟨hh, _⟩ := hw hwt
    split at hu
    · rename_i c x y hop; exact (hnp c x y hop).elim
    · cases hu
    · rename_i op h1 h2
      refine execOp_congr o (fun cs b e => h2 cs b e) fun x hx => h.useO hh ?_
      exact Array.all_eq_true_iff_forall_mem.1 hu x hx
  have hall : o.guard = none → Region.wanted o (yielded all.toArray a.tmps) = true := fun hg => by simp [Region.wanted, hg]
  have hq0 : (qop P w (rho (lkG t0 L R)) o.op fun ob v => gimp (lkG t0 L R) (gchain all 8 o.guard) ob ∧ eNext P all t0 o rest R L K v w) → (∀ c x y, o.op ≠ .pick c x y) → EStep P all.toArray o a w (eNext P all t0 o rest R L K) := by
    intro hq' hnp
    obtain ⟨ob, v, ⟨hb, hq⟩, hrun⟩ := qop_sound hq'
    refine ⟨fun hwt => .inl ⟨v, w, ?_, hq⟩, fun _ => ⟨v, hq⟩⟩
    obtain ⟨hh, hl⟩ := hw hwt
    rw [hsel hnp hwt, hrun (gimp_of _ hl hb) w (fun _ => Ext.refl w)]
  have hcall : ∀ (c : Call) (f : Operand), o.op = .call c → c.callee = .value f → ((Region.wanted o (yielded all.toArray a.tmps) = true → CallW P (rho (lkG t0 L R) f) (c.args.toList.map (rho (lkG t0 L R))) w (eNext P all t0 o rest R L K)) ∧ (Region.wanted o (yielded all.toArray a.tmps) ≠ true → eNext P all t0 o rest R L K undef w)) → EStep P all.toArray o a w (eNext P all t0 o rest R L K) := by
    intro c f hop hf hq
    have hnp : ∀ c' x y, o.op ≠ .pick c' x y := fun c' x y e => by rw [hop] at e; cases e
    refine ⟨fun hwt => .inr (.inr ?_), fun hn => ⟨_, hq.2 hn⟩⟩
    have hq := hq.1 hwt
    rw [hsel hnp hwt]
    unfold CallW at hq
    split at hq
    · rename_i g fi cap hfv
      refine .inl ⟨g, _, ?_, hq.2⟩
      simp only [execOp, hop, resolve, hf, Sem.run_bind, hfv, Deferred.ofValue, Sem.run_pure, Result.andThen_ok, invoke]
      rw [callFunc_run hq.1, ← Array.toList_map, Array.toArray_toList]
    · rename_i l fi cap hfv
      obtain ⟨fn, ts, as, bd, hy, hR⟩ := hq
      refine .inr ⟨l, fn, ts, as, bd, ?_, hR⟩
      simp only [execOp, hop, resolve, hf, Sem.run_bind, hfv, Deferred.ofValue, Sem.run_pure, Result.andThen_ok, invoke]
      rw [← hy, ← Array.toList_map, Array.toArray_toList]
    · exact hq.elim
  unfold eg at hq
  simp only at hq
  split at hq
  · -- pick
    rename_i c x y hop
    obtain ⟨hb, hq⟩ := hq
    refine ⟨fun hwt => .inl ⟨_, w, ?_, hq⟩, fun _ => ⟨_, hq⟩⟩
    obtain ⟨hh, hl⟩ := hw hwt
    have hB := gimp_of _ hl hb
    rw [hop] at hu
    simp only [Bool.and_eq_true] at hu
    have hc := h.useO hh hu.1
    obtain ⟨b, hbv⟩ := hB.ex
    have hx : a.eval (if b then x else y) = rho (lkG t0 L R) (if b then x else y) := by
      rw [hbv] at hc
      cases c with
      | tmp k =>
        simp only [Bool.and_eq_true] at hu
        cases b
        · exact h.useO (G := (k, false) :: gchain all 8 o.guard) (fun c hc' => by rcases List.mem_cons.1 hc' with rfl | h'; exact hc; exact hh c h') hu.2.2
        · exact h.useO (G := (k, true) :: gchain all 8 o.guard) (fun c hc' => by rcases List.mem_cons.1 hc' with rfl | h'; exact hc; exact hh c h') hu.2.1
      | const v => simp only [Bool.and_eq_true] at hu; cases b; exact h.useO hh hu.2.2; exact h.useO hh hu.2.1
      | global v => simp only [Bool.and_eq_true] at hu; cases b; exact h.useO hh hu.2.2; exact h.useO hh hu.2.1
      | func v => simp only [Bool.and_eq_true] at hu; cases b; exact h.useO hh hu.2.2; exact h.useO hh hu.2.1
    rw [hbv] at hc ⊢
    have hrun : (execOp a.eval o).run P w = .ok (.value (if b then a.eval x else a.eval y)) w := by
      simp [execOp, hop, hc, asBool]
    rw [hrun]
    congr 2
    cases b
    · rw [pk_false]; exact hx
    · rw [pk_true]; exact hx
  · -- a call
    rename_i c hop
    have hnp : ∀ c' x y, o.op ≠ .pick c' x y := fun c' x y e => by rw [hop] at e; cases e
    split at hq
    · rename_i f hf
      split at hq
      · rename_i hg
        have hwt := hall (Option.isNone_iff_eq_none.1 hg)
        exact hcall c f hop hf ⟨fun _ => hq, fun hn => (hn hwt).elim⟩
      · rcases hq with hq | ⟨v, hb, hq⟩
        · exact hcall c f hop hf (gEff_of h hone hnw hq)
        refine ⟨fun hwt => .inr (.inr (.inl ?_)), fun _ => ⟨v, hq w (Ext.refl w)⟩⟩
        obtain ⟨hh, hl⟩ := hw hwt
        have hB := gimp_of _ hl hb
        rw [hsel hnp hwt]
        unfold PC at hB
        split at hB
        · rename_i g fi cap hfv
          refine ⟨g, _, ?_, (hB.2 w (Ext.refl w)).mono fun e w' ⟨he, hx⟩ => ⟨v, he, hq w' hx⟩⟩
          simp only [execOp, hop, resolve, hf, Sem.run_bind, hfv, Deferred.ofValue, Sem.run_pure, Result.andThen_ok, invoke]
          rw [callFunc_run hB.1, ← Array.toList_map, Array.toArray_toList]
        · exact hB.elim
    · rename_i hf
      refine estep_sem (gEff_opt h hone hnw hq) fun hwt => ?_
      rw [hsel hnp hwt]
      simp only [execOp, hop, resolve, hf, invoke, builtin, pure_bind]
    · rename_i hf
      refine estep_sem (gEff_opt h hone hnw hq) fun hwt => ?_
      rw [hsel hnp hwt]
      simp only [execOp, hop, resolve, hf, invoke, builtin, pure_bind]
    · rename_i hf
      refine estep_sem (gEff_opt h hone hnw hq) fun hwt => ?_
      rw [hsel hnp hwt]
      simp only [execOp, hop, resolve, hf, invoke, builtin, pure_bind]
    · refine hq0 ?_ hnp
      rw [hop]; exact hq
  all_goals first
    | (rename_i hop; have hq := gEff_opt h hone hnw hq; first
        | (refine estep_sem hq fun hwt => ?_; rw [hsel (fun c x y e => by rw [hop] at e; cases e) hwt]; simp only [execOp, hop]; done)
        | (refine estep_unit hq fun hwt => ?_; rw [hsel (fun c x y e => by rw [hop] at e; cases e) hwt]; simp only [execOp, hop]; done))
    | exact hq0 hq (fun c x y e => by simp_all)
theorem eg_not_defer {P : Program} {all : List Oper} {w : World} {t0 : Nat → Value} {o : Oper} {rest : List Oper} {R : List (Nat × Value)} {L : FL} {K : FL → World → Prop} (hq : eg P all t0 (o :: rest) R L w K) : ∀ c, o.op ≠ .defer c := by
  intro c hc
  unfold eg at hq
  rw [hc] at hq
  exact hq
def NQ (n : Nat) (ds : List DF) (K : FL → World → Prop) : Exit → Act → World → Prop
  | .normal, a, w => ∃ L', Fr n ds L' a ∧ K L' w
  | _, _, _ => False
theorem oper_wpIn_of {P : Program} {r : Option Nat} {o : Oper} {a : Act} {w : World} {Q : Exit → Act → World → Prop} {next : Act → World → Prop} (hd : ∀ c, o.op ≠ .defer c)
    (h : (∃ v w', (execOp a.eval o).run P w = .ok (.value v) w' ∧ next (a.put o.dst v) w') ∨
      (∃ w', (execOp a.eval o).run P w = .ok .skip w' ∧ next (a.put o.dst undef) w') ∨
      (∃ g args, (execOp a.eval o).run P w = .ok (.enter g args) w ∧ Calls P g args w fun e w' => ∃ v, e = .returned v ∧ next (a.put o.dst v) w') ∨
      (∃ l g ts as bd, (execOp a.eval o).run P w = .ok (.round l g ts as bd) w ∧ RoundIn (fw none) 0 P l g ts as bd w fun e w' => ∃ v, e = .returned v ∧ next (a.put o.dst v) w')) : o.wpIn (fw r) 0 P a w next Q := by
  refine ⟨fun _ _ => trivial, ?_⟩
  rw [Oper.semAt_eq _ _ _ hd]
  rcases h with ⟨v, w', hr, hn⟩ | ⟨w', hr, hn⟩ | ⟨g, args, hr, hn⟩ | ⟨l, g, ts, as, bd, hr, hn⟩
  · rw [hr]; exact hn
  · rw [hr]; exact hn
  · rw [hr, Oper.uponIn_enter]
    refine ⟨(fun h => by cases h), calls_fw (hn.mono fun e w' ⟨v, he, hx⟩ => ?_)⟩
    subst he; exact hx
  · rw [hr, Oper.uponIn_round]
    refine ⟨(fun h => by cases h), ?_⟩
    have : RoundIn (fw r) 0 P l g ts as bd w fun e w' => ∃ v, e = .returned v ∧ next (a.put o.dst v) w' := hn
    refine this.mono fun e w' ⟨v, he, hx⟩ => ?_
    subst he; exact hx
theorem eg_sound {P : Program} {r : Option Nat} {n : Nat} {ds : List DF} {all : List Oper} {t0 : Nat → Value} {K : FL → World → Prop} :
    ∀ (rest : List Oper) (defs : List (Nat × List (Nat × Bool))) (R : List (Nat × Value)) (L : FL) (a : Act) (w : World), Inv n ds t0 defs R L a → stat n all rest defs = true →
      eg P all t0 rest R L w K → wpListIn (fw r) 0 P all.toArray (NQ n ds K) rest a w
  | [], defs, R, L, a, w, h, _, hq => ⟨L, ⟨h.size, h.defers, h.plain⟩, hq⟩
  | o :: rest, defs, R, L, a, w, h, hs, hq => by
    unfold stat at hs
    simp only [Bool.and_eq_true] at hs
    obtain ⟨⟨hs1, hs2⟩, hs3⟩ := hs
    obtain ⟨hw, hnw, hcl⟩ := stat_guard h hs1
    obtain ⟨hyes, hno⟩ := eg_step h hw (fun s b hG => stat_one h hs1 hG) hnw hs2 hq
    have hnd := eg_not_defer hq
    unfold wpListIn
    have fin : ∀ (u v : Value) (w' : World), eNext P all t0 o rest R L K v w' → (hold a (gchain all 8 o.guard) → u = v) → (¬ hold a (gchain all 8 o.guard) → u = undef) → wpListIn (fw r) 0 P all.toArray (NQ n ds K) rest (a.put o.dst u) w' := by
      intro u v w' hN h1 h2
      unfold eNext at hN
      cases hd : o.dst with
      | none =>
        rw [hd] at hN hs3
        exact eg_sound rest defs R L _ w' (h.none u) hs3 hN
      | some d =>
        rw [hd] at hs3 hN
        simp only [Bool.and_eq_true, decide_eq_true_eq] at hs3 hN
        obtain ⟨⟨⟨hdn, hdd⟩, _⟩, hs3⟩ := hs3
        have hne : ∀ e ∈ defs, e.1 ≠ d := fun e he hx => by have := List.all_eq_true.1 hdd e he; simp [hx] at this
        cases hg : o.guard with
        | none =>
          rw [hg] at hN
          have hG0 : gchain all 8 o.guard = [] := by rw [hg]; rfl
          rw [hG0] at hs3 h1 h2
          refine eg_sound rest ((d, []) :: defs) R _ _ w' (h.put (G := []) hdn hne (by simp) (fun k hk => lkG_ne t0 L _ hk R) (fun hh => ?_) h2 ?_ (fun e he => .inl he)) hs3 hN
          · rw [lkG_out t0 _ d R fun e he hx => by obtain ⟨x, hx1, hx2⟩ := h.rin e he; exact hne x hx1 (hx2.trans hx)]
            simp [lk, h1 hh]
          · intro k x hk
            by_cases hkd : d = k
            · subst hkd; simp [fnd] at hk; exact .inl ⟨rfl, by rw [h1 (by simp [hold]), hk]⟩
            · simp [fnd, hkd] at hk; exact .inr ⟨Ne.symm hkd, hk⟩
        | some g =>
          rw [hg] at hN
          simp only at hN
          refine eg_sound rest _ _ _ _ w' (h.put hdn hne hcl (fun k hk => ?_) (fun hh => by simp [lkG, h1 hh]) h2 (fun k x hk => ?_) (fun e he => ?_)) hs3 hN
          · simp only [lkG, hk, if_false]; exact lkG_ne t0 L _ hk R
          · by_cases hkd : d = k
            · subst hkd; simp [fnd] at hk
            · simp [fnd, hkd] at hk; exact .inr ⟨Ne.symm hkd, hk⟩
          · rcases List.mem_cons.1 he with rfl | he
            · exact .inr rfl
            · exact .inl he
    by_cases hwt : Region.wanted o (yielded all.toArray a.tmps) = true
    · rw [if_pos hwt]
      have hH := (hw hwt).1
      refine oper_wpIn_of hnd ?_
      rcases hyes hwt with ⟨v, w', hr, hN⟩ | ⟨w', hr, hN⟩ | ⟨g, args, hr, hN⟩ | ⟨l, g, ts, as, bd, hr, hN⟩
      · exact .inl ⟨v, w', hr, fin v v w' hN (fun _ => rfl) (fun hh => (hh hH).elim)⟩
      · exact .inr (.inl ⟨w', hr, fin undef undef w' hN (fun _ => rfl) (fun _ => rfl)⟩)
      · exact .inr (.inr (.inl ⟨g, args, hr, hN.mono fun e w' ⟨v, he, hx⟩ => ⟨v, he, fin v v w' hx (fun _ => rfl) (fun hh => (hh hH).elim)⟩⟩))
      · exact .inr (.inr (.inr ⟨l, g, ts, as, bd, hr, hN.mono fun e w' ⟨v, he, hx⟩ => ⟨v, he, fin v v w' hx (fun _ => rfl) (fun hh => (hh hH).elim)⟩⟩))
    · rw [if_neg hwt]
      obtain ⟨v, hN⟩ := hno hwt
      exact ⟨fun _ _ => trivial, fin undef v w hN (fun hh => (hnw hwt hh).elim) (fun _ => rfl)⟩
theorem quiet_not_defer {P : Program} {C : World → Prop} {o : Oper} {a : Act} {w : World} {v : Value} (h : o.quietAt P a C w v) : ∀ c, o.op ≠ .defer c := by
  intro c hc
  unfold Oper.quietAt at h
  simp only [execOp, hc, Sem.run_bind] at h
  cases hr : (resolve a.eval c o.type).run P w with
  | ok d w' => rw [hr] at h; exact h
  | halt x w' => rw [hr] at h; exact h
theorem wpIn_of_quiet {P : Program} {C : World → Prop} {r : Option Nat} {o : Oper} {a : Act} {K : Act → Prop} {K' : Act → World → Prop} {Q' : Exit → Act → World → Prop} {w : World} (hw : C w)
    (h : ∀ a w', C w' → K a → K' a w') (hh : o.quiet P a C K) : o.wpIn (fw r) 0 P a w K' Q' := by
  obtain ⟨v, h1, h2⟩ := hh
  have h3 := h1 w hw
  refine oper_wpIn_of (quiet_not_defer h3) ?_
  unfold Oper.quietAt at h3
  generalize (execOp a.eval o).run P w = rr at *
  cases rr with
  | ok n w' =>
    cases n <;> simp only [Oper.quietUpon] at h3
    case value u =>
      obtain ⟨e1, e2⟩ := h3
      rw [e1, e2]
      exact .inl ⟨_, _, rfl, h _ _ hw h2⟩
    case skip =>
      obtain ⟨e1, e2⟩ := h3
      rw [e1, ← e2]
      exact .inr (.inl ⟨_, rfl, h _ _ hw h2⟩)
    case enter f args =>
      obtain ⟨e1, hc⟩ := h3
      rw [e1]
      exact .inr (.inr (.inl ⟨_, _, rfl, hc.mono fun e w'' ⟨he, hw''⟩ => ⟨v, he, h _ _ hw'' h2⟩⟩))
  | halt x w' => simp only [Oper.quietUpon] at h3
section
variable {P : Program} {ops : Array Oper} {C : World → Prop} {r : Option Nat}
theorem wpOpIn_of_qOp {i : Nat} {a : Act} {K : Act → Prop} {K' : Act → World → Prop} {Q' : Exit → Act → World → Prop} {w : World} (hC : C w) (h : ∀ a w', C w' → K a → K' a w') (hh : qOp P ops C i K a) : wpOpIn (fw r) 0 P ops Q' i K' a w := by
  unfold qOp at hh
  unfold wpOpIn
  split
  · rename_i ho; simp only [ho] at hh; exact h _ _ hC hh
  · rename_i o ho
    simp only [ho] at hh
    split
    · rename_i hw; simp only [hw, if_true] at hh; exact wpIn_of_quiet hC h hh
    · rename_i hw; simp only [hw] at hh; exact ⟨fun _ _ => trivial, h _ _ hC hh⟩
theorem wpAnyIn_of_quiet {Q : Act → Prop} {Q' : Exit → Act → World → Prop} (hQ : ∀ a w, C w → Q a → Q' .normal a w) : ∀ (fuel : Nat) (listed : Array Bool) (a : Act) (w : World), C w →
    wpAnyQ P .any ops C Q fuel listed a → wpAnyIn (fw r) 0 P .any ops Q' fuel listed a w
  | 0, _, _, _, hw, h => ⟨h.1, hQ _ _ hw h.2⟩
  | fuel + 1, _, _, _, hw, h => ⟨fun h0 => hQ _ _ hw (h.1 h0), fun i hi => wpOpIn_of_qOp hw (fun a' w' hw' => wpAnyIn_of_quiet hQ fuel _ a' w' hw') (h.2 i hi)⟩
theorem wpIn_region_quiet {id : Nat} {Q : Exit → Act → World → Prop} {a : Act} {w : World} (hm : P.follows .mixedOrders = true) (hB : Region.lexB .any ops = true) (hC : C { w with drawn := w.drawn + 1 })
    (h : wpQuiet P ops C (fun a' => ∀ w', C w' → Q .normal a' w') ops.toList a) : (Code.region id ops true).wpIn (fw r) 0 P Q a w := by
  simp only [Region.lexB, Bool.and_eq_true] at hB
  refine wpIn_region_any hm (wpAnyIn_of_quiet (Q := fun a' => ∀ w', C w' → Q .normal a' w') (fun _ w' hw' h => h w' hw') _ _ _ _ hC ?_)
  have := wpAnyQ_lex (C := C) (md := .any) hB.1 ops.toList 0 (Array.replicate ops.size false) a (by simp) (by simpa using hB.2) h
  simpa using this
end
theorem Inv.start {n : Nat} {ds : List DF} {L : FL} {a : Act} (h : Fr n ds L a) : Inv n ds (fun k => a.tmps.getD k undef) [] [] L a := by
  refine ⟨h.size, h.defers, fun k _ => ?_, by simp, h.at_, by simp, by simp⟩
  simp only [lkG]
  rw [lk_fnd]
  cases hf : fnd L k with
  | none => rfl
  | some v => exact h.at_ k v hf
inductive Td where
  | code (c : Code)
  | blk (id : Nat)
  | sc
  | lp (ds : List DF) (J : FL → World → Prop)
def after (P : Program) (r : Option Nat) (n : Nat) : List Td → (Exit → Act → World → Prop) → Exit → Act → World → Prop
  | [], Q, e => Q e
  | .code c :: k, Q, .normal => c.wpIn (fw r) 0 P (after P r n k Q)
  | .blk _ :: k, Q, .normal => after P r n k Q .normal
  | .sc :: k, Q, .normal => after P r n k Q .normal
  | .sc :: _, _, .goto _ => fun _ _ => False
  | .lp ds J :: _, _, .normal => fun a w => ∃ L, Fr n ds L a ∧ J L w
  | .blk id :: k, Q, .exit id' => if id' = id then after P r n k Q .normal else after P r n k Q (.exit id')
  | _ :: k, Q, e => after P r n k Q e
def QA (n : Nat) (Q : Exit → List DF → FL → World → Prop) : Exit → Act → World → Prop := fun e a w => ∃ ds L, Fr n ds L a ∧ Q e ds L w
def Run (P : Program) (r : Option Nat) (n : Nat) (ds : List DF) (todo : List Td) (L : FL) (w : World) (Q : Exit → List DF → FL → World → Prop) : Prop := ∀ a, Fr n ds L a → after P r n todo (QA n Q) .normal a w
def unw (id : Nat) : List Td → Option (List Td)
  | [] => none
  | .blk i :: k => if id = i then some k else unw id k
  | _ :: k => unw id k
section
variable {P : Program} {r : Option Nat} {n : Nat} {ds : List DF} {k : List Td} {L : FL} {w : World} {Q : Exit → List DF → FL → World → Prop}
theorem after_blk_exit {id i : Nat} {Q : Exit → Act → World → Prop} {k : List Td} : after P r n (.blk i :: k) Q (.exit id) = if id = i then after P r n k Q .normal else after P r n k Q (.exit id) := rfl
theorem after_exit {id : Nat} {Q : Exit → Act → World → Prop} : ∀ (k : List Td) (k' : List Td), unw id k = some k' → after P r n k Q (.exit id) = after P r n k' Q .normal
  | [], _, h => by cases h
  | .blk i :: k, k', h => by
    unfold unw at h
    rw [after_blk_exit]
    split at h
    · rename_i hi; rw [if_pos hi]; cases h; rfl
    · rename_i hi; rw [if_neg hi]; exact after_exit k k' h
  | .code c :: k, k', h => (after_exit k k' h : after P r n k Q (.exit id) = after P r n k' Q .normal)
  | .lp ds J :: k, k', h => (after_exit k k' h : after P r n k Q (.exit id) = after P r n k' Q .normal)
  | .sc :: k, k', h => (after_exit k k' h : after P r n k Q (.exit id) = after P r n k' Q .normal)
theorem after_ret {Q : Exit → Act → World → Prop} : ∀ k : List Td, after P r n k Q .ret = Q .ret
  | [] => rfl
  | .blk i :: k => by unfold after; exact after_ret k
  | .code c :: k => by unfold after; exact after_ret k
  | .lp ds J :: k => by unfold after; exact after_ret k
  | .sc :: k => by unfold after; exact after_ret k
theorem Run_nil (h : Q .normal ds L w) : Run P r n ds [] L w Q := fun _ ha => ⟨ds, L, ha, h⟩
theorem Run_seq {x y : Code} (h : Run P r n ds (.code x :: .code y :: k) L w Q) : Run P r n ds (.code (.seq x y) :: k) L w Q := fun a ha => by
  refine wpIn_seq (wpIn_mono (h a ha) fun e a' w' hq => ?_)
  cases e <;> exact hq
theorem Run_skip (h : Run P r n ds k L w Q) : Run P r n ds (.code .skip :: k) L w Q := fun a ha => wpIn_skip (h a ha)
theorem Run_block {id : Nat} {c : Code} (h : Run P r n ds (.code c :: .blk id :: k) L w Q) : Run P r n ds (.code (.block id c) :: k) L w Q := fun a ha => by
  refine wpIn_block (wpIn_mono (h a ha) fun e a' w' hq => ?_)
  cases e <;> first | exact hq | (rw [after_blk_exit] at hq; unfold Exit.inBlock; split at hq <;> simp_all)
theorem Run_blk {id : Nat} (h : Run P r n ds k L w Q) : Run P r n ds (.blk id :: k) L w Q := fun a ha => h a ha
theorem stepR_scope {b : Frame} {a : Act} {k : List Item} {cs : List Frame} {w : World} {c : Code} : step P (lone (b.atR a (.code (.scope c) :: k)) cs w) = .next (lone (b.atR a (.code c :: .inScope c :: k)) cs w) :=
  step_lone_go (by simp [stepG, stepG.exec, Frame.atR])
theorem stepR_inScope {b : Frame} {a : Act} {k : List Item} {cs : List Frame} {w : World} {c : Code} : step P (lone (b.atR a (.inScope c :: k)) cs w) = .next (lone (b.atR a k) cs w) :=
  step_lone_go (by simp [stepG, stepG.exec, Frame.atR])
theorem wpIn_scope_straight {c : Code} {a : Act} {w : World} {Q : Exit → Act → World → Prop} (h : c.wpIn (fw r) 0 P (Exit.noGoto Q) a w) : (Code.scope c).wpIn (fw r) 0 P Q a w := by
  intro b k cs hro hb hr
  have h0 : (lone (b.atR a (.code (.scope c) :: k)) cs w).fenced P (fw r) := fenced_calm hb hr rfl
  obtain ⟨e, a₁, w₁, hq, harr⟩ := h b (.inScope c :: k) cs hro hb hr
  cases e with
  | normal => exact ⟨.normal, a₁, w₁, hq, .head h0 stepR_scope (StepsIn.trans harr (.one (fenced_calm hb hr rfl) stepR_inScope))⟩
  | exit id' =>
    have hx : exitTo id' (.inScope c :: k) = exitTo id' k := by simp [exitTo]
    exact ⟨.exit id', a₁, w₁, hq, fun k' hk => .head h0 stepR_scope (harr.1 k' (by rw [hx]; exact hk)),
      fun hr' hk => let ⟨k₁, h1, h2⟩ := harr.2 hr' (by rw [hx]; exact hk); ⟨k₁, h1, .head h0 stepR_scope h2⟩⟩
  | goto l => exact hq.elim
  | ret => exact ⟨_, a₁, w₁, hq, .of_steps (.one h0 stepR_scope) harr⟩
  | panic ch => exact ⟨_, a₁, w₁, hq, .of_steps (.one h0 stepR_scope) harr⟩
  | outgrown => exact ⟨_, a₁, w₁, hq, .of_steps (.one h0 stepR_scope) harr⟩
theorem Run_scope {c : Code} (h : Run P r n ds (.code c :: .sc :: k) L w Q) : Run P r n ds (.code (.scope c) :: k) L w Q := fun a ha => by
  refine wpIn_scope_straight (wpIn_mono (h a ha) fun e a' w' hq => ?_)
  cases e <;> exact hq
theorem Run_sc (h : Run P r n ds k L w Q) : Run P r n ds (.sc :: k) L w Q := fun a ha => h a ha
theorem Run_label {l : Nat} (h : Run P r n ds k L w Q) : Run P r n ds (.code (.label l) :: k) L w Q := fun a ha => wpIn_label (h a ha)
theorem Run_exit {id : Nat} {k' : List Td} (hk : unw id k = some k') (h : Run P r n ds k' L w Q) : Run P r n ds (.code (.exit id) :: k) L w Q := fun a ha => by
  refine wpIn_exit ?_
  rw [after_exit k k' hk]; exact h a ha
theorem Run_ret (h : Q .ret ds L w) : Run P r n ds (.code .ret :: k) L w Q := fun a ha => by
  refine wpIn_ret ?_
  rw [after_ret k]; exact ⟨ds, L, ha, h⟩
theorem Run_cond {c : Operand} {x y : Code} {b : Bool} (hc : ∀ t0, rho (lk t0 L) c = .bool b) (h1 : b = true → Run P r n ds (.code x :: k) L w Q) (h2 : b = false → Run P r n ds (.code y :: k) L w Q) :
    Run P r n ds (.code (.cond c x y) :: k) L w Q := fun a ha => by
  have he : a.eval c = .bool b := by
    rw [← hc fun k => a.tmps.getD k undef]
    cases c with
    | tmp j =>
      show a.tmps.getD j undef = lk _ L j
      rw [lk_fnd]
      cases hf : fnd L j with
      | none => rfl
      | some v => exact ha.at_ j v hf
    | const v => rfl
    | global g => rfl
    | func f => rfl
  exact wpIn_cond_split he (fun h => h1 h a ha) (fun h => h2 h a ha)
theorem Run_lp {J : FL → World → Prop} (h : J L w) : Run P r n ds (.lp ds J :: k) L w Q := fun _ ha => ⟨L, ha, h⟩
theorem Run_region {id : Nat} {l : List Oper} (hs : stat n l l [] = true) (h : ∀ t0, eg P l t0 l [] L w fun L' w' => Run P r n ds k L' w' Q) : Run P r n ds (.code (.region id l.toArray false) :: k) L w Q := fun a ha => by
  refine wpIn_mono (wpIn_region_lit (eg_sound l [] [] L a w (Inv.start ha) hs (h _))) fun e a' w' hq => ?_
  cases e <;> first | exact hq.elim | (obtain ⟨L', hL, hK⟩ := hq; exact hK a' hL)
theorem Run_drawn {id : Nat} {l : List Oper} (hm : P.follows .mixedOrders = true) (hB : Region.lexB .any l.toArray = true) (hs : stat n l l [] = true)
    (h : ∀ t0, qg P (Ext w) l w t0 l [] L fun L' => ∀ w', Ext w w' → Run P r n ds k L' w' Q) : Run P r n ds (.code (.region id l.toArray true) :: k) L w Q := fun a ha => by
  refine wpIn_region_quiet (C := Ext w) hm hB (Ext.drew w) ?_
  have := qg_sound (P := P) (C := Ext w) (w := w) (fun _ h => h) l [] [] L a (Inv.start ha) hs (h _)
  have mono : ∀ (l' : List Oper) (a : Act), wpQuiet P l.toArray (Ext w) (fun a' => ∃ L', Fr n ds L' a' ∧ ∀ w', Ext w w' → Run P r n ds k L' w' Q) l' a →
      wpQuiet P l.toArray (Ext w) (fun a' => ∀ w', Ext w w' → after P r n k (QA n Q) .normal a' w') l' a := by
    intro l'
    induction l' with
    | nil => intro a h w' hw'; obtain ⟨L', hL, hK⟩ := h; exact hK w' hw' a hL
    | cons o l' ih =>
      intro a h
      unfold wpQuiet at h ⊢
      split at h
      · rename_i hw; rw [if_pos hw]; exact Oper.quiet_mono (fun a => ih a) h
      · rename_i hw; rw [if_neg hw]; exact ih _ h
  simpa using mono _ _ this
def SubB : FL → FL → Prop
  | [], _ => True
  | (d, some v) :: r, L => fnd L d = some v ∧ SubB r L
  | (_, none) :: r, L => SubB r L
theorem SubB.fnd : ∀ {L' L : FL}, SubB L' L → ∀ k v, Fk.fnd L' k = some v → Fk.fnd L k = some v
  | [], _, _, _, _, h => by cases h
  | (d, some u) :: r, L, hs, k, v, h => by
    unfold Fk.fnd at h
    split at h
    · rename_i hd; subst hd; cases h; exact hs.1
    · exact SubB.fnd hs.2 k v h
  | (d, none) :: r, L, hs, k, v, h => by
    unfold Fk.fnd at h
    split at h
    · cases h
    · exact SubB.fnd (L' := r) hs k v h
theorem Fr.sub {L' : FL} {a : Act} (h : Fr n ds L a) (hs : SubB L' L) : Fr n ds L' a := ⟨h.size, h.defers, fun k v hk => h.at_ k v (hs.fnd k v hk)⟩
theorem Run_sub {L' : FL} (hs : SubB L' L) (h : Run P r n ds k L' w Q) : Run P r n ds k L w Q := fun a ha => h a (ha.sub hs)
theorem Run_cut {c : Code} (J : FL → World → Prop) (h : Run P r n ds (.code c :: .lp ds J :: k) L w Q) (hk : ∀ L' w', J L' w' → Run P r n ds k L' w' Q) : Run P r n ds (.code c :: k) L w Q := fun a ha => by
  refine wpIn_mono (h a ha) fun e a' w' hq => ?_
  cases e <;> first | exact hq | (obtain ⟨L', hL, hJ⟩ := hq; exact hk L' w' hJ a' hL)
theorem Run_loop {σ : Type} {body : Code} (Lf : σ → FL) (I : σ → World → Prop) (μ : σ → Nat) (s0 : σ) (hL : SubB (Lf s0) L) (h0 : I s0 w)
    (round : ∀ s w, I s w → Run P r n ds (.code body :: .lp ds (fun L' w' => ∃ s', SubB (Lf s') L' ∧ I s' w' ∧ μ s' < μ s) :: k) (Lf s) w Q) : Run P r n ds (.code (.loop body) :: k) L w Q := fun a ha => by
  intro b kk cs hro hb hr
  have key : ∀ m s a w, μ s = m → Fr n ds (Lf s) a → I s w →
      ∃ e a' w', after P r n k (QA n Q) e a' w' ∧ ArrivesIn (Machine.fenced P (fw r)) P (lone (b.atR a (.code body :: .inLoop body :: kk)) cs w) b kk cs e a' w' := by
    intro m
    induction m using Nat.strongRecOn with
    | _ m ih =>
      intro s a w hm hF hI
      obtain ⟨e, a₁, w₁, hq, harr⟩ := round s w hI a hF b (.inLoop body :: kk) cs hro hb hr
      cases e with
      | normal =>
        obtain ⟨L', hL', s', hs', hI', hlt⟩ := hq
        obtain ⟨e₂, a₂, w₂, hq₂, harr₂⟩ := ih (μ s') (hm ▸ hlt) s' a₁ w₁ rfl (hL'.sub hs') hI'
        exact ⟨e₂, a₂, w₂, hq₂, .of_steps (StepsIn.trans harr (.one (fenced_calm (fr := b.atR a₁ (.inLoop body :: kk)) hb hr rfl) stepR_inLoop)) harr₂⟩
      | exit id => exact ⟨_, a₁, w₁, hq, .pass (x := .inLoop body) rfl (by simp) harr⟩
      | goto l => exact ⟨_, a₁, w₁, hq, .pass (x := .inLoop body) rfl (by simp) harr⟩
      | ret => exact ⟨_, a₁, w₁, hq, .pass (x := .inLoop body) rfl (by simp) harr⟩
      | panic ch => exact ⟨_, a₁, w₁, hq, .pass (x := .inLoop body) rfl (by simp) harr⟩
      | outgrown => exact ⟨_, a₁, w₁, hq, .pass (x := .inLoop body) rfl (by simp) harr⟩
  obtain ⟨e, a', w', hq, harr⟩ := key _ s0 a w rfl (ha.sub hL) h0
  exact ⟨e, a', w', hq, .of_steps (.one (fenced_calm (fr := b.atR a (.code (.loop body) :: kk)) hb hr rfl) stepR_loop) harr⟩
def argL : Nat → List Value → FL
  | _, [] => []
  | i, v :: r => (i, some v) :: argL (i + 1) r
theorem argL_fnd : ∀ (i : Nat) (vs : List Value) (k : Nat) (v : Value), fnd (argL i vs) k = some v → i ≤ k ∧ vs[k - i]? = some v
  | _, [], _, _, h => by cases h
  | i, u :: r, k, v, h => by
    unfold argL fnd at h
    split at h
    · rename_i hi; subst hi; cases h; simp
    · rename_i hi
      obtain ⟨h1, h2⟩ := argL_fnd (i + 1) r k v h
      refine ⟨by omega, ?_⟩
      have : k - i = (k - (i + 1)) + 1 := by omega
      rw [this]; simpa using h2
def resV (P : Program) (L : FL) (w : World) : List ResultVar → (List Value → Prop) → Prop
  | [], K => K []
  | .tmp t :: r, K => ∃ v, fnd L t = some v ∧ resV P L w r fun vs => K (v :: vs)
  | .cell p ty :: r, K => ∃ a v, fnd L p = some (.pointer (some a)) ∧ (loadVar ty a).run P w = .ok v w ∧ resV P L w r fun vs => K (v :: vs)
def oneOr : List Value → Value
  | [v] => v
  | vs => .tuple vs.toArray
end
theorem operWpIn_mono {P : Program} {r : Option Nat} {o : Oper} {a : Act} {w : World} {K K' : Act → World → Prop} {Q Q' : Exit → Act → World → Prop} (hq : ∀ e a w, Q e a w → Q' e a w) (hk : ∀ a w, K a w → K' a w)
    (h : o.wpIn (fw r) 0 P a w K Q) : o.wpIn (fw r) 0 P a w K' Q' := by
  refine ⟨h.1, ?_⟩
  have hh := h.2
  generalize (o.semAt (fw r).round a.eval).run P w = rr at *
  cases rr with
  | ok x w' =>
    cases x <;> simp only [Oper.uponIn] at hh ⊢ <;>
      first
        | exact hk _ _ hh
        | exact ⟨hh.1, CallsIn.mono hh.2 (fun e w'' he => by cases e <;> first | exact hk _ _ he | exact hq _ _ _ he | (obtain ⟨a0, w0, h0⟩ := he; exact ⟨a0, w0, hq _ _ _ h0⟩))⟩
        | exact ⟨hh.1, RowsIn.mono hh.2 (fun _ _ he => hk _ _ he)⟩
        | exact ⟨hh.1, RoundIn.mono hh.2 (fun e w'' he => by cases e <;> first | exact hk _ _ he | exact hq _ _ _ he | (obtain ⟨a0, w0, h0⟩ := he; exact ⟨a0, w0, hq _ _ _ h0⟩))⟩
  | halt x w' => cases x <;> simp only [Oper.uponIn] at hh ⊢ <;> exact hq _ _ _ hh
theorem wpListIn_mono {P : Program} {r : Option Nat} {ops : Array Oper} {Q Q' : Exit → Act → World → Prop} (hq : ∀ e a w, Q e a w → Q' e a w) : ∀ (l : List Oper) (a : Act) (w : World), wpListIn (fw r) 0 P ops Q l a w → wpListIn (fw r) 0 P ops Q' l a w
  | [], a, w, h => hq _ _ _ h
  | o :: l, a, w, h => by
    unfold wpListIn at h ⊢
    split at h
    · rename_i hw; rw [if_pos hw]; exact operWpIn_mono hq (fun a w h => wpListIn_mono hq l a w h) h
    · rename_i hw; rw [if_neg hw]; exact ⟨h.1, wpListIn_mono hq l _ _ h.2⟩
section
variable {P : Program} {ops : Array Oper} {C : World → Prop} {r : Option Nat}
def wpAnyLQ (P : Program) (md : Region.Mode) (ops : Array Oper) (C : World → Prop) (n : Nat) (L : Array Bool → Act → Prop) : Nat → Array Bool → Act → Prop
  | 0, listed, a => L listed a
  | f + 1, listed, a => Region.ready md ops listed ≠ [] ∧ ∀ i ∈ Region.ready md ops listed, i < n ∧ qOp P ops C i (wpAnyLQ P md ops C n L f (listed.setIfInBounds i true)) a
theorem wpAnyIn_of_headQ {n g : Nat} {L : Array Bool → Act → Prop} {Q' : Exit → Act → World → Prop} (hL : ∀ listed a w, C w → L listed a → wpAnyIn (fw r) 0 P .any ops Q' g listed a w) :
    ∀ (f : Nat) (listed : Array Bool) (a : Act) (w : World), C w → wpAnyLQ P .any ops C n L f listed a → wpAnyIn (fw r) 0 P .any ops Q' (f + g) listed a w
  | 0, listed, a, w, hw, h => by rw [Nat.zero_add]; exact hL _ _ _ hw h
  | f + 1, listed, a, w, hw, h => by
    rw [show f + 1 + g = (f + g) + 1 by omega]
    exact ⟨fun h0 => absurd h0 h.1, fun i hi => wpOpIn_of_qOp hw (fun a' w' hw' h' => wpAnyIn_of_headQ hL f _ a' w' hw' h') (h.2 i hi).2⟩
theorem wpAnyLQ_first {n i : Nat} {oi : Oper} {v : Value} {L : Array Bool → Act → Prop} (hi : ops[i]? = some oi) (hsel : ∀ (j : Nat) (o : Oper) cs b, ops[j]? = some o → o.op ≠ .select cs b)
    (hs : Region.sinkB .any ops n = true) (hc : Region.chainB .any ops n = true) (hn : n < ops.size) (hin : i < n)
    (hdone : ∀ listed a, L listed a → ∀ j ∈ Region.ready .any ops listed, n ≤ j) :
    ∀ (f : Nat) (listed : Array Bool) (a : Act), HeadInv .any ops n listed →
      (∀ j oj, ops[j]? = some oj → j ≠ i → listed.getD j true = false → (∀ e ∈ oj.after, Region.binds .any e = true → e.on ≠ i) → oi.apart ops oj = true) →
      i ∈ Region.ready .any ops listed → YieldsIn P ops C oi v a →
      wpAnyLQ P .any ops C n L f (listed.setIfInBounds i true) (a.put oi.dst v) → wpAnyLQ P .any ops C n L (f + 1) listed a := by
  intro f
  induction f with
  | zero =>
    intro listed a inv _ hr hy H
    refine ⟨fun h => (by rw [h] at hr; cases hr), fun j hj => ?_⟩
    have hjn : j < n := by
      rcases Nat.lt_or_ge j n with h | h
      · exact h
      · exact absurd hj (tail_waits hs hc hn inv _ i rfl hin (mem_ready.1 hr).1 j h)
    refine ⟨hjn, ?_⟩
    by_cases hji : j = i
    · subst hji; exact hy.qOp hi H
    · have := hdone _ _ H j (ready_mono hj hji)
      omega
  | succ f ih =>
    intro listed a inv hfree hr hy H
    have hun := (mem_ready.1 hr).1
    refine ⟨fun h => (by rw [h] at hr; cases hr), fun j hj => ?_⟩
    have hjn : j < n := by
      rcases Nat.lt_or_ge j n with h | h
      · exact h
      · exact absurd hj (tail_waits hs hc hn inv _ i rfl hin hun j h)
    refine ⟨hjn, ?_⟩
    by_cases hji : j = i
    · subst hji; exact hy.qOp hi H
    · have h1 := (H.2 j (ready_mono hj hji)).2
      obtain ⟨hjun, oj, hoj, hall⟩ := mem_ready.1 hj
      have hnot : ∀ e ∈ oj.after, Region.binds .any e = true → e.on ≠ i := fun e he hb heq => by
        have h1 := hall e he hb
        rw [heq, getD_both hun] at h1
        cases h1
      have h2 := qOp_put hoj (hfree j oj hoj hji hjun hnot) (fun cs b => hsel i oi cs b hi) (fun cs b => hsel j oj cs b hoj) hy h1
      have hfree' : ∀ k ok, ops[k]? = some ok → k ≠ i → (listed.setIfInBounds j true).getD k true = false →
          (∀ e ∈ ok.after, Region.binds .any e = true → e.on ≠ i) → oi.apart ops ok = true := fun k ok hk hki hun hno => by
        refine hfree k ok hk hki ?_ hno
        by_cases hjk : j = k
        · subst hjk; exact hjun
        · rw [getD_set_ne true hjk] at hun; exact hun
      refine qOp_mono (fun a' h3 => ih (listed.setIfInBounds j true) a' (inv.set hj hjn) hfree' (ready_mono hr (Ne.symm hji)) h3.1 ?_) h2
      rw [Array.setIfInBounds_comm _ _ hji]
      exact h3.2
theorem wpAnyIn_of_seq {Q' : Exit → Act → World → Prop} : ∀ (l : List Oper) (k : Nat) (listed : Array Bool) (a : Act) (w : World), (∀ j, l[j]? = ops[k + j]?) →
    Region.seqB .any ops l.length k listed = true → wpListIn (fw r) 0 P ops Q' l a w → wpAnyIn (fw r) 0 P .any ops Q' l.length listed a w
  | [], _, _, _, _, _, hB, h => ⟨by simpa [Region.seqB] using hB, h⟩
  | o :: l, k, listed, a, w, hl, hB, h => by
    have h0 : ops[k]? = some o := by simpa using (hl 0).symm
    simp only [List.length_cons, Region.seqB, Bool.and_eq_true, decide_eq_true_eq] at hB
    refine ⟨fun h1 => (by rw [hB.1] at h1; cases h1), fun i hi => ?_⟩
    rw [hB.1] at hi
    have hik : i = k := by simpa using hi
    subst hik
    have hw : wpOpIn (fw r) 0 P ops Q' i (wpListIn (fw r) 0 P ops Q' l) a w := by unfold wpOpIn; simp only [h0]; exact h
    exact wpOpIn_mono (fun a' w' h' => wpAnyIn_of_seq l (i + 1) _ a' w' (fun j => by have := hl (j + 1); simpa [Nat.add_assoc, Nat.add_comm 1 j] using this) hB.2 h') hw
theorem wpAnyLQ_lex {n g : Nat} {Lq : Act → Prop} (hsel : Region.noSelect ops = true) (hs : Region.sinkB .any ops n = true) (hc : Region.chainB .any ops n = true) (hn : n < ops.size) :
    ∀ (l : List Oper) (k : Nat) (listed : Array Bool) (a : Act), (∀ j, j < l.length → l[j]? = ops[k + j]?) → k + l.length = n → HeadInv .any ops n listed →
    Region.lexHead .any ops g l.length k listed = true → wpQuiet P ops C Lq l a →
    wpAnyLQ P .any ops C n (fun listed' a' => Region.seqB .any ops g n listed' = true ∧ Lq a') l.length listed a
  | [], k, listed, a, _, hk, _, hB, h => by
    have : k = n := by simpa using hk
    subst this
    exact ⟨by simpa [Region.lexHead] using hB, h⟩
  | o :: l, k, listed, a, hl, hk, inv, hB, h => by
    have h0 : ops[k]? = some o := by simpa using (hl 0 (by simp)).symm
    simp only [List.length_cons, Region.lexHead, Bool.and_eq_true] at hB
    obtain ⟨⟨hr, hf⟩, hB'⟩ := hB
    have hkn : k < n := by simp only [List.length_cons] at hk; omega
    have hr' : k ∈ Region.ready .any ops listed := by simpa using hr
    have hst : qOp P ops C k (wpQuiet P ops C Lq l) a := by unfold qOp; simp only [h0]; exact h
    obtain ⟨v, hy, hK⟩ := yieldsIn_of_qOp h0 hst
    exact wpAnyLQ_first h0 (Region.noSelect_spec hsel) hs hc hn hkn (fun listed' a' hL => seqB_ready hL.1) l.length listed a inv (Region.free_spec h0 hf) hr' hy
      (wpAnyLQ_lex hsel hs hc hn l (k + 1) _ _ (fun j hj => by have := hl (j + 1) (by simp; omega); simpa [Nat.add_assoc, Nat.add_comm 1 j] using this) (by simp only [List.length_cons] at hk; omega) (inv.set hr' hkn) hB' hK)
theorem wpIn_region_tail {id : Nat} {Q : Exit → Act → World → Prop} {a : Act} {w : World} {l : List Oper} (n : Nat) (hm : P.follows .mixedOrders = true) (hB : Region.lexTailB .any l.toArray n = true) (hC : C { w with drawn := w.drawn + 1 })
    (h : wpQuiet P l.toArray C (fun a' => ∀ w', C w' → wpListIn (fw r) 0 P l.toArray Q (l.drop n) a' w') (l.take n) a) : (Code.region id l.toArray true).wpIn (fw r) 0 P Q a w := by
  simp only [Region.lexTailB, Bool.and_eq_true, decide_eq_true_eq] at hB
  obtain ⟨⟨⟨⟨hsel, hn⟩, hs⟩, hc⟩, hlex⟩ := hB
  have hn' : n < l.length := by simpa using hn
  have htl : (l.take n).length = n := by simp; omega
  have hdl : (l.drop n).length = l.toArray.size - n := by simp
  have inv0 : HeadInv .any l.toArray n (Array.replicate l.toArray.size false) :=
    ⟨by simp, fun j oj _ hl => (by rw [getD_replicate_false] at hl; cases hl), fun t _ ht => getD_in (by simpa using ht) (getD_replicate_false _ _)⟩
  have H := wpAnyLQ_lex (g := l.toArray.size - n) hsel hs hc hn (l.take n) 0 _ a (fun j hj => by
    have hj' : j < n := by rw [htl] at hj; exact hj
    simp [hj']) (by simpa using htl) inv0 (by rw [htl]; exact hlex) h
  refine wpIn_region_any hm ?_
  have := wpAnyIn_of_headQ (C := C) (r := r) (Q' := Q) (g := l.toArray.size - n) (fun listed a' w' hw' hL => by
    have := wpAnyIn_of_seq (r := r) (Q' := Q) (l.drop n) n listed a' w' (fun j => by simp [List.getElem?_drop]) (by rw [hdl]; exact hL.1) (hL.2 w' hw')
    rwa [hdl] at this) _ _ _ _ hC H
  rw [htl, show n + (l.toArray.size - n) = l.toArray.size by omega] at this
  exact this
end
theorem Run_tail {P : Program} {r : Option Nat} {n : Nat} {ds : List DF} {k : List Td} {L : FL} {w : World} {Q : Exit → List DF → FL → World → Prop} {id : Nat} {l : List Oper} (m : Nat)
    (hm : P.follows .mixedOrders = true) (hB : Region.lexTailB .any l.toArray m = true) (hs1 : stat n l (l.take m) [] = true) (hs2 : stat n l (l.drop m) [] = true)
    (h : ∀ t0, qg P (Ext w) l w t0 (l.take m) [] L fun L1 => ∀ w1, Ext w w1 → ∀ t1, eg P l t1 (l.drop m) [] L1 w1 fun L' w' => Run P r n ds k L' w' Q) : Run P r n ds (.code (.region id l.toArray true) :: k) L w Q := fun a ha => by
  refine wpIn_region_tail (C := Ext w) m hm hB (Ext.drew w) ?_
  have := qg_sound (P := P) (C := Ext w) (w := w) (fun _ h => h) (l.take m) [] [] L a (Inv.start ha) hs1 (h _)
  have mono : ∀ (l' : List Oper) (a : Act), wpQuiet P l.toArray (Ext w) (fun a' => ∃ L', Fr n ds L' a' ∧ ∀ w1, Ext w w1 → ∀ t1, eg P l t1 (l.drop m) [] L' w1 fun L' w' => Run P r n ds k L' w' Q) l' a →
      wpQuiet P l.toArray (Ext w) (fun a' => ∀ w', Ext w w' → wpListIn (fw r) 0 P l.toArray (after P r n k (QA n Q)) (l.drop m) a' w') l' a := by
    intro l'
    induction l' with
    | nil =>
      intro a h w' hw'
      obtain ⟨L', hL, hK⟩ := h
      have h1 := eg_sound (r := r) (l.drop m) [] [] L' a w' (Inv.start hL) hs2 (hK w' hw' _)
      exact wpListIn_mono (fun e a w hq => by cases e <;> first | exact hq.elim | (obtain ⟨L', hL, hK⟩ := hq; exact hK a hL)) _ _ _ h1
    | cons o l' ih =>
      intro a h
      unfold wpQuiet at h ⊢
      split at h
      · rename_i hw; rw [if_pos hw]; exact Oper.quiet_mono (fun a => ih a) h
      · rename_i hw; rw [if_neg hw]; exact ih _ h
  exact mono _ _ this
def resOne (tmps : Array Value) : ResultVar → Sem Value
  | .tmp t => pure (tmps.getD t undef)
  | .cell p ty => do loadVar ty (← asAddr (tmps.getD p undef))
theorem results_eq (fn : Func) (tmps : Array Value) : results fn tmps = (do let vs ← fn.results.mapM (resOne tmps); pure (if h : vs.size = 1 then vs[0] else .tuple vs)) := by
  unfold results
  have : (fun x => match x with
    | ResultVar.tmp t => (pure (tmps.getD t undef) : Sem Value)
    | ResultVar.cell a t => do loadVar t (← asAddr (tmps.getD a undef))) = resOne tmps := by
    funext x; cases x <;> rfl
  rw [← this]
  rfl
theorem mapM_results {P : Program} {w : World} {a : Act} {n : Nat} {ds : List DF} {L : FL} (ha : Fr n ds L a) : ∀ (rs : List ResultVar) (K : List Value → Prop), resV P L w rs K →
    ∃ vs, Sem.run P (rs.mapM (resOne a.tmps)) w = .ok vs w ∧ K vs
  | [], K, h => ⟨[], by simp, h⟩
  | .tmp t :: r, K, h => by
    obtain ⟨v, hf, h⟩ := h
    obtain ⟨vs, hr, hK⟩ := mapM_results ha r _ h
    refine ⟨v :: vs, ?_, hK⟩
    have := ha.at_ t v hf
    simp only [List.mapM_cons, Sem.run_bind, Sem.run_pure, Result.andThen_ok, hr, resOne, this]
  | .cell p ty :: r, K, h => by
    obtain ⟨ad, v, hf, hl, h⟩ := h
    obtain ⟨vs, hr, hK⟩ := mapM_results ha r _ h
    refine ⟨v :: vs, ?_, hK⟩
    have := ha.at_ p _ hf
    simp only [List.mapM_cons, Sem.run_bind, Sem.run_pure, Result.andThen_ok, hr, resOne, this, asAddr, hl]
theorem results_run {P : Program} {w : World} {a : Act} {n : Nat} {ds : List DF} {L : FL} {fn : Func} (ha : Fr n ds L a) {rs : List ResultVar} (hrs : fn.results = rs.toArray) {K : List Value → Prop} (h : resV P L w rs K) :
    ∃ vs, (results fn a.tmps).run P w = .ok (oneOr vs) w ∧ K vs := by
  obtain ⟨vs, hr, hK⟩ := mapM_results ha rs K h
  refine ⟨vs, ?_, hK⟩
  rw [results_eq, hrs, List.mapM_toArray]
  simp only [Sem.run_bind, Sem.run_map]
  rw [hr]
  simp only [Result.andThen_ok, Sem.run_pure]
  cases vs with
  | nil => simp [oneOr]
  | cons v r => cases r with
    | nil => simp [oneOr]
    | cons u r => simp [oneOr]
def RetM : List DF → World → (World → Prop) → Prop
  | [], w, K => K w
  | .f _ _ _ :: _, _, _ => False
  | .m d :: ds, w, K => w.heap[d]? = some (.deferred (some [])) ∧ RetM ds (w.putObj d (.deferred none)) K
def Rets (P : Program) (rs : List ResultVar) (R : Value → World → Prop) : Exit → List DF → FL → World → Prop
  | .normal, ds, L, w | .ret, ds, L, w => RetM ds w fun w' => resV P L w' rs fun vs => R (oneOr vs) w'
  | _, _, _, _ => False
theorem leaves_marks {P : Program} {fn : Func} {a : Act} {R : Ending → World → Prop} {rs : List ResultVar} {n : Nat} {L : FL} {ds0 : List DF} (ha : Fr n ds0 L a) (hrs : fn.results = rs.toArray) : ∀ (ds : List DF) (w : World),
    RetM ds w (fun w' => resV P L w' rs fun vs => R (.returned (oneOr vs)) w') → LeavesInM (fw none) 0 P fn a.tmps R (marks ds) .returning w
  | [], w, h => by
    obtain ⟨vs, hr, hR⟩ := results_run ha hrs h
    exact ⟨_, hr, hR⟩
  | .f _ _ _ :: _, w, h => h.elim
  | .m d :: ds, w, h => ⟨(fun e => by cases e), .inl ⟨d, _, rfl, run_takeDeferred h.1, leaves_marks ha hrs ds _ h.2⟩⟩
theorem Calls_of_Run {P : Program} {f : FuncId} {fn : Func} {c : Code} {args : List Value} {w : World} {R : Ending → World → Prop} {rs : List ResultVar} {n : Nat}
    (hf : P.funcs[f]? = some fn) (hb : fn.body = some c) (hn : fn.ntmps = n) (hrs : fn.results = rs.toArray) (hl : args.length ≤ n)
    (h : Run P none n [] [.code c] (argL 0 args) w (Rets P rs fun v w' => R (.returned v) w')) : Calls P f args.toArray w R := by
  refine fw_calls (r := none) (n := 0) (callsIn_of_wp_marks hf hb trivial (wpIn_mono (h { tmps := args.toArray ++ Array.replicate (fn.ntmps - args.toArray.size) undef, defers := [] } ⟨by simp [hn]; omega, rfl, fun k v hk => ?_⟩) fun e a w' hq => ?_))
  · obtain ⟨_, h2⟩ := argL_fnd 0 args k v hk
    simp only [Nat.sub_zero] at h2
    have hlt : k < args.length := by
      rcases Nat.lt_or_ge k args.length with h | h
      · exact h
      · rw [List.getElem?_eq_none h] at h2; cases h2
    rw [Array.getD_eq_getD_getElem?, Array.getElem?_append_left (by simpa using hlt)]
    simp [h2]
  · obtain ⟨ds, L, hL, hq⟩ := hq
    cases e <;> first
      | exact hq.elim
      | (show LeavesInM (fw none) 0 P fn a.tmps R a.defers .returning w'
         rw [hL.defers]
         exact leaves_marks hL hrs ds w' hq)
def Lp (l : Nat) (rc : Loop) (st : LoopState) (pd : Option Code) (w : World) : Prop := w.heap[l]? = some (.loop { rc with state := st, pending := pd })
def FrT (n : Nat) (L : FL) (ts : Array Value) : Prop := ts.size = n ∧ ∀ k v, fnd L k = some v → ts.getD k undef = v
def lpSet (w : World) (l : Nat) (rc : Loop) (st : LoopState) (pd : Option Code) : World := w.putObj l (.loop { rc with state := st, pending := pd })
def RoundQ (l : Nat) (rc : Loop) (R : Value → World → Prop) : Exit → List DF → FL → World → Prop
  | .normal, _, _, w => Lp l rc .busy none w ∧ R (.bool true) (lpSet w l rc .ready none)
  | .ret, _, _, w => Lp l rc .busy none w ∧ R (.bool false) (lpSet w l rc .done (some .ret))
  | .exit id, _, _, w => Lp l rc .busy none w ∧ R (.bool false) (lpSet w l rc .done (some (.exit id)))
  | _, _, _, _ => False
def zipL : List Nat → List Value → FL → FL
  | p :: ps, v :: vs, L => zipL ps vs ((p, some v) :: L)
  | _, _, L => L
theorem FrT.set {n : Nat} {L : FL} {ts : Array Value} (h : FrT n L ts) (p : Nat) (v : Value) (hp : p < n) : FrT n ((p, some v) :: L) (ts.setIfInBounds p v) := by
  refine ⟨by simp [h.1], fun k u hk => ?_⟩
  unfold fnd at hk
  split at hk
  · rename_i he; subst he; cases hk
    simp [Array.getD, h.1, hp]
  · rename_i he
    rw [Array.getD_eq_getD_getElem?, Array.getElem?_setIfInBounds_ne he, ← Array.getD_eq_getD_getElem?]
    exact h.2 k u hk
theorem FrT.zip {n : Nat} : ∀ (ps : List Nat) (vs : List Value) (L : FL) (ts : Array Value), FrT n L ts → (∀ p ∈ ps, p < n) → ps.length = vs.length →
    FrT n (zipL ps vs L) ((ps.zip vs).foldl (fun (ts : Array Value) (x : Nat × Value) => ts.setIfInBounds x.1 x.2) ts)
  | [], [], _, _, h, _, _ => h
  | p :: ps, v :: vs, L, ts, h, hp, hl => by
    simp only [List.zip_cons_cons, List.foldl_cons, zipL]
    exact FrT.zip ps vs _ _ (h.set p v (hp p (List.mem_cons_self ..))) (fun q hq => hp q (List.mem_cons_of_mem _ hq)) (by simpa using hl)
  | [], _ :: _, _, _, _, _, h => by simp at h
  | _ :: _, [], _, _, _, _, h => by simp at h
theorem yield_round {P : Program} {l n : Nat} {L : FL} {rc : Loop} {ps : List Nat} {as bd : Code} {args : List Value} {w : World} {R : Value → World → Prop} (hl : Lp l rc .ready none w)
    (hps : rc.params = ps.toArray) (has : rc.assign = as) (hbd : rc.body = bd) (hT : FrT n L rc.tmps) (hlen : ps.length = args.length) (hlt : ∀ p ∈ ps, p < n)
    (h : Run P (some l) n [] [.code as, .lp [] (fun L1 w1 => Lp l rc .ready none w1 ∧ Run P (some l) n [] [.code bd] L1 (lpSet w1 l rc .busy none) (RoundQ l rc R))] (zipL ps args L) w (fun _ _ _ _ => False)) :
    YieldAt (fw none) 0 P l args.toArray w fun e w' => ∃ v, e = .returned v ∧ R v w' := by
  subst has hbd
  have hT' := FrT.zip ps args L rc.tmps hT hlt hlen
  refine ⟨_, _, _, _, run_yield hl (by simp [hps, hlen]), ?_⟩
  refine roundIn_of_wpIn trivial ?_
  have ha : Fr n [] (zipL ps args L) { tmps := (rc.params.zip args.toArray).foldl (fun tmps x => tmps.setIfInBounds x.1 x.2) rc.tmps, defers := [] } := by
    have he : (rc.params.zip args.toArray).foldl (fun tmps x => tmps.setIfInBounds x.1 x.2) rc.tmps = (ps.zip args).foldl (fun (ts : Array Value) (x : Nat × Value) => ts.setIfInBounds x.1 x.2) rc.tmps := by
      rw [hps, ← Array.foldl_toList]; simp
    rw [he]
    exact ⟨hT'.1, rfl, hT'.2⟩
  have h1 : rc.assign.wpIn (fw (some l)) 0 P _ _ w := h _ ha
  refine wpIn_mono h1 fun e a1 w1 hq => ?_
  cases e with
  | normal =>
    obtain ⟨L1, hL1, hl1, hrun⟩ := hq
    refine ⟨_, run_beginRound hl1 rfl, ?_⟩
    have hrun' : rc.body.wpIn (fw (some l)) 0 P (after P (some l) n [] (QA n (RoundQ l rc R))) a1 (lpSet w1 l rc .busy none) := hrun a1 hL1
    refine wpIn_mono hrun' fun e a2 w2 hq2 => ?_
    obtain ⟨ds, L2, hL2, hq2⟩ := hq2
    cases e with
    | normal => exact ⟨_, _, run_endRound none hq2.1, ⟨_, rfl, hq2.2⟩⟩
    | ret => exact ⟨_, _, run_endRound (some .ret) hq2.1, ⟨_, rfl, hq2.2⟩⟩
    | exit id => exact ⟨_, _, run_endRound (some (.exit id)) hq2.1, ⟨_, rfl, hq2.2⟩⟩
    | goto t => exact hq2.elim
    | panic c => exact hq2.elim
    | outgrown => exact hq2.elim
  | exit id => obtain ⟨_, _, _, hf⟩ := hq; exact hf.elim
  | goto id => obtain ⟨_, _, _, hf⟩ := hq; exact hf.elim
  | ret => obtain ⟨_, _, _, hf⟩ := hq; exact hf.elim
  | panic id => obtain ⟨_, _, _, hf⟩ := hq; exact hf.elim
  | outgrown => obtain ⟨_, _, _, hf⟩ := hq; exact hf.elim
def RangeEnd (P : Program) (r : Option Nat) (n : Nat) (ds : List DF) (l : Nat) (rc : Loop) (k : List Td) (L : FL) (Q : Exit → List DF → FL → World → Prop) (w : World) : Prop :=
  ∃ st pd, Lp l rc st pd w ∧ st ≠ .busy ∧
    match pd with
    | none => Run P r n ds k L (lpSet w l rc .exhausted none) Q
    | some c => Run P r n ds (.code c :: k) L (lpSet w l rc .exhausted (some c)) Q
theorem Run_range {P : Program} {n : Nat} {ds : List DF} {k : List Td} {L : FL} {w : World} {Q : Exit → List DF → FL → World → Prop} {g : Operand} {ps : Array Tmp} {as bd : Code} {f : FuncId} {fi cap : Array Value}
    (hg : ∀ t0, rho (lk t0 L) g = .func (.func f) fi cap) (hc : callable P f = true)
    (h : ∀ (rc : Loop) (w1 : World), rc.params = ps → rc.assign = as → rc.body = bd → FrT n L rc.tmps →
      w1 = (w.alloc (.deferred (some []))).alloc (.loop { rc with state := .ready, pending := none }) →
      Calls P f (fi ++ #[.func (.yield (w.heap.size + 1)) #[] #[]] ++ cap) w1 fun e w3 => ∃ v, e = .returned v ∧ RangeEnd P none n (w.heap.size :: ds) (w.heap.size + 1) rc k L Q w3) :
    Run P none n ds (.code (.rangeFunc g ps as bd) :: k) L w Q := fun a ha => by
  have he : a.eval g = .func (.func f) fi cap := by
    rw [← hg fun k => a.tmps.getD k undef]
    cases g with
    | tmp j =>
      show a.tmps.getD j undef = lk _ L j
      rw [lk_fnd]
      cases hf : fnd L j with
      | none => rfl
      | some v => exact ha.at_ j v hf
    | const v => rfl
    | global g => rfl
    | func f => rfl
  refine wpIn_rangeFunc fun fn _ => ?_
  let rc : Loop := { state := .ready, pending := none, fn, tmps := a.tmps, params := ps, assign := as, body := bd, defers := w.heap.size }
  refine ⟨w.heap.size + 1, [{ target := .collected w.heap.size, args := #[] }], (w.alloc (.deferred (some []))).alloc (.loop rc), { target := .fn (.func f) cap, args := fi ++ #[.func (.yield (w.heap.size + 1)) #[] #[]] }, (w.alloc (.deferred (some []))).alloc (.loop rc), f,
    fi ++ #[.func (.yield (w.heap.size + 1)) #[] #[]] ++ cap, (w.alloc (.deferred (some []))).alloc (.loop rc), run_enterLoop_outer fn a.tmps ps as bd, ?_, fun _ _ => trivial, ?_, (fun h => by cases h), ?_⟩
  · simp only [resolve, rangeCall, Sem.run_bind, he, Deferred.ofValue, Sem.run_pure]
    simp [Act.eval, rc]
  · simp only [invoke]
    exact callFunc_run hc
  · refine calls_fw ((h rc _ rfl rfl rfl ⟨ha.size, ha.at_⟩ rfl).mono fun e w3 ⟨v, hv, st, pd, hl, hst, hend⟩ => ?_)
    subst hv
    have ha' : Fr n (w.heap.size :: ds) L { a with defers := [{ target := .collected w.heap.size, args := #[] }] ++ a.defers } := ⟨ha.size, by simp [ha.defers, marks, DF.d], ha.at_⟩
    refine ⟨pd, _, run_endLoop hl hst, ?_⟩
    cases pd with
    | none => exact hend _ ha'
    | some c => exact hend _ ha'
structure NewB (w : World) (p : Addr) (cs : List Value) (t : TypeId) (w' : World) : Prop where
  p : p = ⟨w.heap.size, 0, none⟩
  w : w' = w.alloc (.cells cs.toArray t (0, 0))
def At (w : World) (a : Addr) (cs : List Value) : Prop := ∀ j v, cs[j]? = some v → w.cell? (a.add j) = some v
theorem At.has {w : World} {a : Addr} {cs : List Value} (h : At w a cs) {j : Nat} (hj : j < cs.length) : has1 w (a.add j) := by
  unfold has1; rw [h j _ (List.getElem?_eq_getElem hj)]; rfl
theorem At.mem {w : World} {a : Addr} {cs : List Value} (h : At w a cs) {j : Nat} (hj : j < cs.length) : mem w (a.add j) = cs[j] := by
  unfold Fk.mem; rw [h j _ (List.getElem?_eq_getElem hj)]; rfl
theorem At.ext {w w' : World} {a : Addr} {cs : List Value} (h : At w a cs) (hx : Ext w w') : At w' a cs := fun j v hj => by
  have h1 := h j v hj
  have : has1 w (a.add j) := by unfold has1; rw [h1]; rfl
  rw [hx.cell this]; congr 1; unfold Fk.mem; rw [h1]; rfl
theorem add_zero (a : Addr) : a.add 0 = a := rfl
theorem mk_add (b j : Nat) : (⟨b, 0, none⟩ : Addr).add j = ⟨b, j, none⟩ := by unfold Addr.add; split <;> simp_all
theorem NewB.ext {w w' : World} {p : Addr} {cs : List Value} {t : TypeId} (h : NewB w p cs t w') : Ext w w' := by
  rw [h.w]; exact (Below.refl _ _).alloc (Nat.le_refl _) _
theorem NewB.at_ {w w' : World} {p : Addr} {cs : List Value} {t : TypeId} (h : NewB w p cs t w') : At w' p cs := fun j v hj => by
  rw [h.w, h.p, mk_add, World.cell?_alloc_new]; simpa using hj
theorem NewB.size {w w' : World} {p : Addr} {cs : List Value} {t : TypeId} (h : NewB w p cs t w') : w'.heap.size = w.heap.size + 1 := by rw [h.w]; simp
theorem NewB.heap {w w' : World} {p : Addr} {cs : List Value} {t : TypeId} (h : NewB w p cs t w') : w'.heap[w.heap.size]? = some (.cells cs.toArray t (0, 0)) := by
  rw [h.w]; show (w.heap.push _)[w.heap.size]? = _; simp
theorem SemW_box {P : Program} {w : World} {t : TypeId} {x : Value} {K : Value → World → Prop} (h : ∀ p w', NewB w p x.cells.toList t w' → K (.pointer (some p)) w') : SemW P (Instr.box t x) w K :=
  SemW.of_run (v := .pointer (some ⟨w.heap.size, 0, none⟩)) (w' := w.alloc (.cells x.cells t (0, 0))) (by simp [Instr.box, newVar, newRow]) (h _ _ ⟨rfl, by simp⟩)
theorem SemW_alloc {P : Program} {w : World} {t : TypeId} {i : TypeInfo} {z : Value} {K : Value → World → Prop} (hi : P.info? t = some i) (hz : i.zero = some z) (h : ∀ p w', NewB w p z.cells.toList t w' → K (.pointer (some p)) w') :
    SemW P (Instr.alloc t true (.tuple #[])) w K :=
  SemW.of_run (v := .pointer (some ⟨w.heap.size, 0, none⟩)) (w' := w.alloc (.cells z.cells t (0, 0))) (by simp [Instr.alloc, newVar, newRow, zeroValue, typeInfo, hi, hz]) (h _ _ ⟨rfl, by simp⟩)
def I64 (x : Int) : Prop := -9223372036854775808 ≤ x ∧ x ≤ 9223372036854775807
class Enc (α : Type) where
  n : Nat
  rep : World → List Value → α → Prop
  len : ∀ w cs x, rep w cs x → cs.length = n
  ext : ∀ w w' cs x, Ext w w' → rep w cs x → rep w' cs x
structure Sl {α : Type} [Enc α] (w : World) (v : Value) (xs : List α) : Prop where
  s : IsS v
  len : slLen v = xs.length
  cap : xs.length ≤ slCap v
  big : xs.length ≤ 140737488355328
  capM : slCap v ≤ 9223372036854775807
  at_ : ∀ i (h : i < xs.length), ∃ cs, Enc.rep w cs xs[i] ∧ At w ((slAt v).add (i * Enc.n α)) cs
instance : Enc Int where
  n := 1
  rep _ cs x := cs = [.int .i64 x] ∧ I64 x
  len _ _ _ h := by rw [h.1]; rfl
  ext _ _ _ _ _ h := h
theorem Sl.ext {α : Type} [Enc α] {w w' : World} {v : Value} {xs : List α} (h : Sl w v xs) (hx : Ext w w') : Sl w' v xs :=
  ⟨h.s, h.len, h.cap, h.big, h.capM, fun i hi => let ⟨cs, h1, h2⟩ := h.at_ i hi; ⟨cs, Enc.ext _ _ _ _ hx h1, h2.ext hx⟩⟩
instance {α : Type} [Enc α] : Enc (List α) where
  n := 1
  rep w cs xs := ∃ v, cs = [v] ∧ Sl w v xs
  len _ _ _ h := by obtain ⟨v, rfl, _⟩ := h; rfl
  ext _ _ _ _ hx h := by obtain ⟨v, rfl, hs⟩ := h; exact ⟨v, rfl, hs.ext hx⟩
theorem Sl.nil {α : Type} [Enc α] (w : World) : Sl w (.slice none 0 0) ([] : List α) :=
  ⟨.inl rfl, rfl, by simp, by simp, by simp, fun i h => by simp at h⟩
theorem Sl.small {α : Type} [Enc α] {w : World} {v : Value} {xs : List α} (h : Sl w v xs) : xs.length ≤ 140737488355328 := h.big
theorem add_add (a : Addr) (i j : Nat) : (a.add i).add j = a.add (i + j) := by
  unfold Addr.add
  by_cases hi : i = 0 <;> by_cases hj : j = 0 <;> simp [hi, hj, Nat.add_assoc]
theorem Sl.get {w : World} {v : Value} {xs : List Int} (h : Sl w v xs) {i : Nat} (hi : i < xs.length) : mem w ((slAt v).add i) = .int .i64 xs[i] ∧ has1 w ((slAt v).add i) ∧ I64 xs[i] := by
  obtain ⟨cs, ⟨rfl, hI⟩, ha⟩ := h.at_ i hi
  have h1 := ha.mem (j := 0) (by simp)
  have h2 := ha.has (j := 0) (by simp)
  rw [add_zero, show i * Enc.n Int = i from Nat.mul_one i] at h1 h2
  exact ⟨h1, h2, hI⟩
theorem slSub_len (size : Nat) (v : Value) (l h m : Nat) (hv : IsS v) : slLen (slSub size v l h m) = h - l := by
  rcases hv.ex with rfl | ⟨a, n, c, rfl⟩ <;> rfl
theorem slSub_is (size : Nat) (v : Value) (l h m : Nat) (hv : IsS v) (hm : m ≤ slCap v) (hlh : l ≤ h) (hhm : h ≤ m) : IsS (slSub size v l h m) := by
  rcases hv.ex with rfl | ⟨a, n, c, rfl⟩
  · simp at hm
    have h1 : m = 0 := by omega
    have h2 : h = 0 := by omega
    have h3 : l = 0 := by omega
    subst h1 h2 h3
    simp [slSub]
  · simp only [slSub]
    split <;> simp
theorem Sl.sub {α : Type} [Enc α] {w : World} {v : Value} {xs : List α} (h : Sl w v xs) {l r m : Nat} (hlr : l ≤ r) (hr : r ≤ xs.length) (hm1 : r ≤ m) (hm2 : m ≤ slCap v) :
    Sl w (slSub (Enc.n α) v l r m) ((xs.take r).drop l) := by
  have hlen : ((xs.take r).drop l).length = r - l := by simp; omega
  refine ⟨slSub_is _ _ _ _ _ h.s hm2 hlr hm1, by rw [slSub_len _ _ _ _ _ h.s, hlen], ?_, ?_, ?_, fun i hi => ?_⟩
  · rw [hlen]
    rcases h.s.ex with rfl | ⟨a, n, c, rfl⟩ <;> simp only [slSub, slCap_mk] <;> omega
  · have := h.big; omega
  · have := h.capM
    rcases h.s.ex with rfl | ⟨a, n, c, rfl⟩ <;> simp only [slSub, slCap_mk] at * <;> omega
  · rw [hlen] at hi
    obtain ⟨cs, h1, h2⟩ := h.at_ (l + i) (by omega)
    refine ⟨cs, by simpa using h1, ?_⟩
    have hne : m ≠ l := by omega
    rcases h.s.ex with rfl | ⟨a, n, c, rfl⟩
    · have := h.len; simp at this hm2; omega
    · simp only [slSub, hne, if_false, Option.map_some, slAt_mk] at h2 ⊢
      rw [add_add, ← Nat.add_mul]; exact h2
structure Buf (e : TypeId) (size : Nat) (W w : World) (v : Value) (n : Nat) (xs : List Value) : Prop where
  own : w.ownsRow W.heap.size e size v n xs
  ext : Ext W w
theorem Buf.nil {e : TypeId} {size : Nat} {W w : World} (h : Ext W w) : Buf e size W w (.slice none 0 0) 0 [] := ⟨World.ownsRow_nil _ _ _ _, h⟩
structure TI (P : Program) (e : TypeId) (z : Value) (size bytes : Nat) : Prop where
  h : (P.info? e).map (fun i => (i.zero, i.size, i.bytes)) = some (some z, size, bytes)
theorem ownsRow_val {w : World} {base : Nat} {e : TypeId} {size : Nat} {v : Value} {n : Nat} {xs : List Value} (h : w.ownsRow base e size v n xs) : IsS v ∧ slLen v = n ∧ n ≤ slCap v ∧ slCap v ≤ maxLen := by
  rcases h.2 with ⟨rfl, rfl⟩ | ⟨g, cap, cur, rfl, _, _, h1, h2, _⟩
  · exact ⟨.inl rfl, rfl, Nat.le_refl _, Nat.zero_le _⟩
  · exact ⟨by simp, rfl, h1, h2⟩
theorem ownsRow_at {w : World} {base : Nat} {e : TypeId} {size : Nat} {v : Value} {n : Nat} {xs : List Value} (h : w.ownsRow base e size v n xs) (hn : 0 < xs.length) : At w (slAt v) xs := by
  rcases h.2 with ⟨rfl, rfl⟩ | ⟨g, cap, cur, rfl, hb, hg, h1, h2, h3⟩
  · have := h.1; simp at this; rw [this] at hn; simp at hn
  · exact h.cells (g := g) rfl
theorem grownBy_ext {W w w' : World} {row : Option Nat} (h : Ext W w) (hg : w.grownBy w' row) (hr : ∀ k, row = some k → W.heap.size ≤ k) : Ext W w' := Below.grown h hg h.size hr
theorem SemW_append {P : Program} {W w : World} {t ty e : TypeId} {z : Value} {size bytes : Nat} (ht : P.underlying t = some (.slice e)) (hT : TI P e z size bytes) (hzs : z.cells.size = size) (hsz : 0 < size)
    {v x : Value} {n m : Nat} {xs news : List Value} (hB : Buf e size W w v n xs) (hx : IsS x) (hm : slLen x = m) (hl : news.length = m * size) (hnews : 0 < m → At w (slAt x) news) (h1 : ∀ u ∈ news, u.oneCell' = true)
    (h63 : n + m ≤ maxLen) (hbytes : (n + m) * bytes ≤ 140737488355328) {K : Value → World → Prop}
    (hK : ∀ v' w', Buf e size W w' v' (n + m) (xs ++ news) → w.grownBy w' v.ownBlock → (v' = .slice none 0 0 ↔ v = .slice none 0 0 ∧ m = 0) → K v' w') :
    SemW P (Builtin.append_ #[t, t] ty #[v, x]) w K := by
  obtain ⟨i, hi, hz, hs, hb⟩ := info_parts hT.h
  have hlt := hB.own.lt
  rcases hx.ex with rfl | ⟨a, k, c, rfl⟩
  · simp at hm; subst hm
    have hn0 : news = [] := List.eq_nil_of_length_eq_zero (by simpa using hl)
    subst hn0
    refine SemW.of_run (run_append_owned_none (P := P) w W.heap.size t ty e i size ht hi v n xs hB.own) (hK _ _ (by simpa using hB) ⟨rfl, rfl, rfl, Nat.le_refl _, fun _ _ _ => rfl⟩ (by simp))
  · simp at hm; subst hm
    have hnw : ∀ j u, news[j]? = some u → w.cell? (a.add j) = some u := fun j u hu => by
      have : 0 < k := by
        rcases Nat.eq_zero_or_pos k with rfl | h
        · have h0 : news = [] := List.eq_nil_of_length_eq_zero (by simpa using hl)
          rw [h0] at hu; simp at hu
        · exact h
      exact hnews this j u hu
    obtain ⟨v', w', hr, ho, hg, hnil⟩ := run_append_own (P := P) w W.heap.size t ty e i z size bytes ht hi hz hs hb hzs hsz v n xs hB.own a k c news hl hnw h1 h63 hbytes hB.ext.size
    exact SemW.of_run hr (hK v' w' ⟨ho, grownBy_ext hB.ext hg fun j hj => (hlt j hj).1⟩ hg hnil)
theorem fill_full {size : Nat} : ∀ (vs : List Value) (i : Nat) (done rest : List Value), (∀ v ∈ vs, v.cells.size = size) → done.length = i * size → rest.length = vs.length * size →
    Instr.fill (fun i => some (i * size, size)) (done ++ rest).toArray ((vs.zipIdx i).map fun p => (p.2, p.1)) = some (done ++ vs.flatMap fun v => v.cells.toList).toArray
  | [], i, done, rest, _, _, hr => by
    have : rest = [] := List.eq_nil_of_length_eq_zero (by simpa using hr)
    subst this
    simp [Instr.fill]
  | v :: vs, i, done, rest, hv, hd, hr => by
    have hvs := hv v (List.mem_cons_self ..)
    simp only [List.zipIdx_cons, List.map_cons, Instr.fill]
    have hr' : rest.length = size + vs.length * size := by rw [hr]; simp [Nat.add_mul]; omega
    rw [if_neg (by simp [hvs, hd, hr'])]
    have hset : v.cells.zipIdx.foldl (fun (cs : Array Value) (x : Value × Nat) => cs.setIfInBounds (i * size + x.2) x.1) (done ++ rest).toArray = (done ++ v.cells.toList ++ rest.drop size).toArray := by
      have key : ∀ (us : List Value) (k : Nat) (mid tl : List Value), mid.length = k → us.length ≤ tl.length →
          (us.zipIdx k).foldl (fun (cs : Array Value) (x : Value × Nat) => cs.setIfInBounds (i * size + x.2) x.1) (done ++ mid ++ tl).toArray = (done ++ mid ++ us ++ tl.drop us.length).toArray := by
        intro us
        induction us with
        | nil => intro k mid tl _ _; simp
        | cons u us ih =>
          intro k mid tl hk hlen
          cases tl with
          | nil => simp at hlen
          | cons c tl =>
            simp only [List.zipIdx_cons, List.foldl_cons]
            have : (done ++ mid ++ c :: tl).toArray.setIfInBounds (i * size + k) u = (done ++ (mid ++ [u]) ++ tl).toArray := by
              simp only [List.setIfInBounds_toArray]
              congr 1
              rw [List.set_append_right _ _ (by simp [hd, hk])]
              simp [hd, hk]
            rw [this, ih (k + 1) (mid ++ [u]) tl (by simp [hk]) (by simpa using hlen)]
            simp
      have := key v.cells.toList 0 [] rest rfl (by simp [hvs, hr'])
      simp only [List.append_nil, Array.length_toList, hvs] at this
      rw [← this]
      rw [← Array.foldl_toList]
      simp
    rw [hset]
    have := fill_full vs (i + 1) (done ++ v.cells.toList) (rest.drop size) (fun u hu => hv u (List.mem_cons_of_mem _ hu)) (by simp [hd, hvs, Nat.add_mul]) (by simp [hr'])
    rw [this]
    simp
theorem SemW_buildSlice {P : Program} {w : World} {t e : TypeId} {z : Value} {size bytes : Nat} (ht : P.underlying t = some (.slice e)) (hT : TI P e z size bytes) (hzs : z.cells.size = size)
    {parts : Array (Nat × Value)} {vs : List Value} {n : Nat} (hp : parts.toList = vs.zipIdx.map fun p => (p.2, p.1)) (hn : n = vs.length) (hv : ∀ v ∈ vs, v.cells.size = size) (hsm : n * size ≤ 16777216)
    {K : Value → World → Prop} (hK : ∀ p w', NewB w p (vs.flatMap fun v => v.cells.toList) e w' → K (.slice (some p) n n) w') : SemW P (Instr.buildSlice t n parts) w K := by
  obtain ⟨i, hi, hz, hs, hb⟩ := info_parts hT.h
  have hf := fill_full (size := size) vs 0 [] (((Array.range (n * size)).map fun j => z.cells[j % z.cells.size]!).toList) hv (by simp) (by simp [hn])
  simp only [List.nil_append, Array.toArray_toList] at hf
  have hsm' : ¬ n * size > 2 ^ 24 := by omega
  refine SemW.of_run (v := .slice (some ⟨w.heap.size, 0, none⟩) n n) (w' := w.alloc (.cells (vs.flatMap fun v => v.cells.toList).toArray e (0, 0))) ?_ (hK _ _ ⟨rfl, rfl⟩)
  unfold Instr.buildSlice
  simp only [Sem.run_bind, underlying_run ht, Result.andThen_ok, sizeOf, typeInfo, hi, run_program, Sem.run_pure, hs]
  by_cases h0 : n * size = 0
  · have e0 : ∀ f : Nat → Value, Array.map f (Array.range 0) = #[] := fun _ => by simp
    rw [h0, e0] at hf
    simp only [h0, if_true, if_neg (show ¬ (0 : Nat) > 2 ^ 24 by omega), Sem.run_pure, Result.andThen_ok, e0, hp, hf]
    simp [newRow]
  · simp only [h0, if_false, if_neg hsm']
    simp only [zeroValue, typeInfo, hi, hz, Sem.run_bind, run_program, Sem.run_pure, Result.andThen_ok, hp, hf]
    simp [newRow]
def AtN (w : World) (a : Addr) : Nat → List Value → Prop
  | _, [] => True
  | i, c :: cs => has1 w (a.add i) ∧ mem w (a.add i) = c ∧ AtN w a (i + 1) cs
theorem At.nAux {w : World} {a : Addr} : ∀ (cs : List Value) (i : Nat), (∀ j v, cs[j]? = some v → w.cell? (a.add (i + j)) = some v) → AtN w a i cs
  | [], _, _ => trivial
  | c :: cs, i, h => by
    have h0 := h 0 c rfl
    rw [Nat.add_zero] at h0
    refine ⟨by unfold Fk.has1; rw [h0]; rfl, by unfold Fk.mem; rw [h0]; rfl, At.nAux cs (i + 1) fun j v hj => ?_⟩
    rw [show i + 1 + j = i + (j + 1) by omega]
    exact h (j + 1) v hj
theorem At.n {w : World} {a : Addr} {cs : List Value} (h : At w a cs) : AtN w a 0 cs := At.nAux cs 0 fun j v hj => by rw [Nat.zero_add]; exact h j v hj
theorem wrap_in {x : Int} (h1 : -9223372036854775808 ≤ x) (h2 : x ≤ 9223372036854775807) : IntKind.i64.wrap x = x := IntWalk.i64_in x ⟨h1, h2⟩
theorem tdiv_eq {a b : Int} (h : 0 ≤ a) : a.tdiv b = a / b := Int.tdiv_eq_ediv_of_nonneg h
theorem tmod_eq {a b : Int} (h : 0 ≤ a) : a.tmod b = a % b := Int.tmod_eq_emod_of_nonneg h
theorem SemW_store {P : Program} {w : World} {t T : TypeId} {X : Value} {g o : Nat} {cur : Array Value} {K : Unit → World → Prop} (hne : P.cellsOf t ≠ 0) (hX : X.cells.size = P.cellsOf t)
    (hg : w.heap[g]? = some (.cells cur T (0, 0))) (hfit : o + P.cellsOf t ≤ cur.size) (h1 : ∀ u ∈ X.cells.toList, u.oneCell' = true)
    (hK : K () (w.setRow g (cur.toList.take o ++ X.cells.toList ++ cur.toList.drop (o + P.cellsOf t)).toArray)) : SemW P (Instr.storeAt t (.pointer (some ⟨g, o, none⟩)) X) w K := by
  obtain ⟨i, hi, hs⟩ := cells_info hne
  have hst := run_storeCells_at P g o T X.cells.toList 0 cur w hg (by simp [hX]; exact hfit) h1
  simp only [Nat.add_zero, Array.length_toList, hX] at hst
  refine SemW.of_run ?_ hK
  simp only [Instr.storeAt, Instr.sureAddr, storeVar, sizeOf, typeInfo, hi, hs, Sem.run_bind, run_program, Sem.run_pure, Result.andThen_ok]
  rw [if_neg (by simp [hX])]
  simp [hst]
theorem setRow_new (w : World) (a b : Array Value) (t : TypeId) : (w.alloc (.cells a t (0, 0))).setRow w.heap.size b = w.alloc (.cells b t (0, 0)) := by
  unfold World.setRow World.alloc
  congr 1
  apply Array.ext_getElem?
  intro i
  rw [Array.getElem?_modify]
  by_cases h : w.heap.size = i
  · subst h; simp
  · rw [if_neg h]; simp [Array.getElem?_push, Ne.symm h]
theorem SemW_var {P : Program} {w : World} {t : TypeId} {z X : Value} {size bytes : Nat} (hT : TI P t z size bytes) (hz : z.cells.size = size) (hX : X.cells.size = size) (h0 : 0 < size) (h1 : X.cells.toList.all Value.oneCell' = true) {K : Value → World → Prop}
    (h : ∀ p w', NewB w p X.cells.toList t w' → K (.pointer (some p)) w') : SemW P (Instr.alloc t true (.tuple #[])) w (fun v w' => SemW P (Instr.storeAt t v X) w' fun _ w'' => K v w'') := by
  obtain ⟨i, hi, hz0, hs, hb⟩ := info_parts hT.h
  have hc : P.cellsOf t = size := by simp [Program.cellsOf, hi, hs]
  refine SemW_alloc hi hz0 fun p w' hN => ?_
  have hg := hN.heap
  obtain ⟨rfl, rfl⟩ := hN
  refine SemW_store (T := t) (cur := z.cells) (by omega) (by omega) (by simpa using hg) (by omega) (List.all_eq_true.1 h1) ?_
  refine h _ _ ⟨rfl, ?_⟩
  have e1 : (z.cells.toList.toArray) = z.cells := by simp
  rw [e1, setRow_new]
  congr 2
  rw [hc]
  apply Array.ext'
  simp [List.drop_eq_nil_of_le (show z.cells.toList.length ≤ 0 + size by simp [hz]), hz]
theorem CallW_gen {P : Program} {g : FuncId} {args : List Value} {w : World} {K : Value → World → Prop} {R : Ending → World → Prop} (hc : callable P g = true) (h : Calls P g args.toArray w R)
    (hK : ∀ e w', R e w' → ∃ v, e = .returned v ∧ K v w') : CallW P (.func (.func g) #[] #[]) args w K := by
  refine ⟨hc, ?_⟩
  simp only [Array.empty_append, Array.append_empty]
  exact h.mono hK
theorem CallW_pure {P : Program} {g : FuncId} {args : List Value} {w : World} {K : Value → World → Prop} {v : Value} (hc : callable P g = true) (h : Calls P g args.toArray w fun e w' => e = .returned v ∧ Ext w w')
    (hK : ∀ w', Ext w w' → K v w') : CallW P (.func (.func g) #[] #[]) args w K :=
  CallW_gen hc h fun e w' ⟨he, hw⟩ => ⟨v, he, hK w' hw⟩
theorem PC_pure {P : Program} {g : FuncId} {args : List Value} {w : World} {v : Value} (hc : callable P g = true) (h : ∀ w1, Ext w w1 → Calls P g args.toArray w1 fun e w' => e = .returned v ∧ Ext w1 w') : PC P (Ext w) (.func (.func g) #[] #[]) args v := by
  refine ⟨hc, fun w1 hw1 => ?_⟩
  simp only [Array.empty_append, Array.append_empty]
  exact (h w1 hw1).mono fun e w' ⟨he, hw⟩ => ⟨he, hw1.trans hw⟩
theorem grownBy_trans {a b c : World} {row : Option Nat} (h : a.grownBy b row) (k : b.grownBy c row) : a.grownBy c row :=
  ⟨k.os.trans h.os, k.tape.trans h.tape, k.output.trans h.output, Nat.le_trans h.size k.size, fun i hi hr => (k.block i (Nat.lt_of_lt_of_le hi h.size) hr).trans (h.block i hi hr)⟩
theorem SemW_append1 {P : Program} {W w : World} {t ty e : TypeId} {z : Value} {size bytes : Nat} (ht : P.underlying t = some (.slice e)) (hT : TI P e z size bytes) (hzs : z.cells.size = size) (hsz : 0 < size ∧ size ≤ 16777216)
    {v X : Value} {n : Nat} {xs : List Value} (hB : Buf e size W w v n xs) (hX : X.cells.size = size) (h1 : X.cells.toList.all Value.oneCell' = true)
    (hbytes : n + 1 ≤ maxLen ∧ (n + 1) * bytes ≤ 140737488355328) {K : Value → Value → World → Prop}
    (hK : ∀ s v' w', Buf e size W w' v' (n + 1) (xs ++ X.cells.toList) → w.grownBy w' v.ownBlock → v' ≠ .slice none 0 0 → K s v' w') :
    SemW P (Instr.buildSlice t 1 #[(0, X)]) w fun s w1 => SemW P (Builtin.append_ #[t, t] ty #[v, s]) w1 (K s) := by
  refine SemW_buildSlice (vs := [X]) ht hT hzs (by simp) rfl (by simpa using hX) (by simpa using hsz.2) fun p w1 hN => ?_
  have hB1 : Buf e size W w1 v n xs := by
    refine ⟨?_, hB.ext.trans hN.ext⟩
    rw [hN.w]; exact hB.own.alloc _
  have hat := hN.at_
  simp only [List.flatMap_cons, List.flatMap_nil, List.append_nil] at hat
  refine SemW_append (x := .slice (some p) 1 1) (m := 1) (news := X.cells.toList) ht hT hzs hsz.1 hB1 (by simp) rfl (by simp [hX]) (fun _ => hat) (List.all_eq_true.1 h1) hbytes.1 hbytes.2 fun v' w' hB' hg hnil => ?_
  refine hK _ v' w' hB' (grownBy_trans (by rw [hN.w]; exact World.grownBy_alloc _ _ _) hg) fun e => ?_
  have := hnil.1 e
  simp at this
theorem ownsRow_ext {w w' : World} {base : Nat} {e : TypeId} {size : Nat} {v : Value} {n : Nat} {xs : List Value} (h : w.ownsRow base e size v n xs) (hx : Ext w w') : w'.ownsRow base e size v n xs :=
  h.kept (row := none) ⟨hx.os, hx.tape, hx.output, hx.size, fun k hk _ => hx.block k hk⟩ (by cases v.ownBlock <;> simp)
structure Keep (S : Nat → Prop) (w w' : World) : Prop where
  os : w'.os = w.os
  tape : w'.tape = w.tape
  output : w'.output = w.output
  size : w.heap.size ≤ w'.heap.size
  block : ∀ k, k < w.heap.size → S k → w'.heap[k]? = w.heap[k]?
theorem Keep.refl (S : Nat → Prop) (w : World) : Keep S w w := ⟨rfl, rfl, rfl, Nat.le_refl _, fun _ _ _ => rfl⟩
theorem Keep.trans {S : Nat → Prop} {a b c : World} (h : Keep S a b) (k : Keep S b c) : Keep S a c :=
  ⟨k.os.trans h.os, k.tape.trans h.tape, k.output.trans h.output, Nat.le_trans h.size k.size, fun i hi hs => (k.block i (Nat.lt_of_lt_of_le hi h.size) hs).trans (h.block i hi hs)⟩
theorem Keep.mono {S S' : Nat → Prop} {a b : World} (h : Keep S a b) (hs : ∀ k, k < a.heap.size → S' k → S k) : Keep S' a b := ⟨h.os, h.tape, h.output, h.size, fun k hk h1 => h.block k hk (hs k hk h1)⟩
theorem Keep.of_ext {S : Nat → Prop} {a b : World} (h : Ext a b) : Keep S a b := ⟨h.os, h.tape, h.output, h.size, fun k hk _ => h.block k hk⟩
theorem Keep.below {B : Nat} {W w w' : World} {S : Nat → Prop} (h : Below B W w) (k : Keep S w w') (hB : B ≤ w.heap.size) (hS : ∀ k, k < B → S k) : Below B W w' :=
  h.trans ⟨k.os, k.tape, k.output, k.size, fun i hi => k.block i (Nat.lt_of_lt_of_le hi hB) (hS i hi)⟩
theorem Keep.ext {W w w' : World} {S : Nat → Prop} (h : Ext W w) (k : Keep S w w') (hS : ∀ k, k < W.heap.size → S k) : Ext W w' := Keep.below h k h.size hS
theorem Keep.grown {S : Nat → Prop} {w w' : World} {row : Option Nat} (h : w.grownBy w' row) (hr : ∀ k, row = some k → ¬ S k) : Keep S w w' :=
  ⟨h.os, h.tape, h.output, h.size, fun k hk hs => h.block k hk fun e => hr k e.symm hs⟩
structure Row (w : World) (p : Addr) (t : TypeId) (vs : List Value) : Prop where
  p0 : p = ⟨p.block, 0, none⟩
  heap : w.heap[p.block]? = some (.cells vs.toArray t (0, 0))
theorem Row.lt {w : World} {p : Addr} {t : TypeId} {vs : List Value} (h : Row w p t vs) : p.block < w.heap.size := (Array.getElem?_eq_some_iff.1 h.heap).1
theorem Row.at_ {w : World} {p : Addr} {t : TypeId} {vs : List Value} (h : Row w p t vs) : At w p vs := fun j v hj => by
  rw [h.p0, mk_add]
  simp [World.cell?, h.heap, hj]
theorem Row.n {w : World} {p : Addr} {t : TypeId} {vs : List Value} (h : Row w p t vs) : AtN w p 0 vs := h.at_.n
theorem Row.keep {w w' : World} {p : Addr} {t : TypeId} {vs : List Value} {S : Nat → Prop} (h : Row w p t vs) (k : Keep S w w') (hs : S p.block) : Row w' p t vs := ⟨h.p0, (k.block _ h.lt hs).trans h.heap⟩
theorem Row.ext {w w' : World} {p : Addr} {t : TypeId} {vs : List Value} (h : Row w p t vs) (k : Ext w w') : Row w' p t vs := ⟨h.p0, (k.block _ h.lt).trans h.heap⟩
theorem NewB.row {w w' : World} {p : Addr} {cs : List Value} {t : TypeId} (h : NewB w p cs t w') : Row w' p t cs := ⟨by rw [h.p], by rw [show p.block = w.heap.size by rw [h.p]]; exact h.heap⟩
theorem NewB.blk {w w' : World} {p : Addr} {cs : List Value} {t : TypeId} (h : NewB w p cs t w') : p.block = w.heap.size := by rw [h.p]
theorem At.keep {w w' : World} {p : Addr} {vs : List Value} {S : Nat → Prop} (h : At w p vs) (k : Keep S w w') (hs : S p.block) : At w' p vs := fun j v hj => by
  have h1 := h j v hj
  have hb : (p.add j).block = p.block := by unfold Addr.add; split <;> rfl
  have hlt := World.block_lt_of_cell? _ _ h1
  rw [hb] at hlt
  rw [← h1]
  exact World.cell?_of_block (w := w) (by rw [hb]; exact k.block _ hlt hs)
theorem SemW_setN {P : Program} {w : World} {t T : TypeId} {X : Value} {p : Addr} {vs : List Value} {K : Unit → World → Prop} (o : Nat) (hc : P.cellsOf t ≠ 0) (hX : X.cells.size = P.cellsOf t)
    (hg : Row w p T vs) (hfit : o + P.cellsOf t ≤ vs.length) (h1 : X.cells.toList.all Value.oneCell' = true)
    (hK : ∀ w', Row w' p T (vs.take o ++ X.cells.toList ++ vs.drop (o + P.cellsOf t)) → Keep (fun k => k ≠ p.block) w w' → w'.heap.size = w.heap.size → K () w') : SemW P (Instr.storeAt t (.pointer (some (p.add o))) X) w K := by
  have hp := hg.p0
  rw [hp, mk_add]
  refine SemW_store (T := T) (cur := vs.toArray) hc hX hg.heap (by simpa using hfit) (List.all_eq_true.1 h1) (hK _ ⟨hp, ?_⟩ ⟨rfl, rfl, rfl, by simp, fun k _ hk => setRow_other _ _ _ _ hk⟩ (by simp))
  exact setRow_heap _ _ _ _ _ _ hg.heap
theorem SemW_set1 {P : Program} {w : World} {t T : TypeId} {X u : Value} {p : Addr} {K : Unit → World → Prop} (hc : P.cellsOf t = 1) (hg : Row w p T [u]) (hX : X.cells.size = 1) (h1 : X.cells.toList.all Value.oneCell' = true)
    (hK : ∀ w', Row w' p T X.cells.toList → Keep (fun k => k ≠ p.block) w w' → w'.heap.size = w.heap.size → K () w') : SemW P (Instr.storeAt t (.pointer (some p)) X) w K := by
  have := SemW_setN (P := P) (t := t) (X := X) (K := K) 0 (by omega) (by omega) hg (by simp [hc]) h1 fun w' h => hK w' (by simpa [hc] using h)
  simpa [add_zero] using this
theorem SemW_setAt {P : Program} {w : World} {t T : TypeId} {X : Value} {p : Addr} {vs : List Value} {K : Unit → World → Prop} {i : Nat} (hc : P.cellsOf t = 1) (hg : Row w p T vs) (hi : i < vs.length) (hX : X.cells = #[X]) (h1 : X.oneCell' = true)
    (hK : ∀ w', Row w' p T (vs.set i X) → Keep (fun k => k ≠ p.block) w w' → w'.heap.size = w.heap.size → K () w') : SemW P (Instr.storeAt t (.pointer (some (p.add i))) X) w K := by
  refine SemW_setN (P := P) (t := t) (X := X) (K := K) i (by omega) (by rw [hX, hc]; rfl) hg (by omega) (by rw [hX]; simpa using h1) fun w' h => hK w' ?_
  rw [hX, hc] at h
  rw [List.set_eq_take_append_cons_drop, if_pos hi]
  simpa using h
theorem SemW_make {P : Program} {w : World} {t e : TypeId} {z : Value} {size bytes n : Nat} (ht : P.underlying t = some (.slice e)) (hT : TI P e z size bytes) (hcells : n * size ≤ 16777216) (hbytes : bytes * n ≤ 281474976710656) (h63 : n ≤ maxLen)
    {K : Value → World → Prop} (hK : ∀ p w' cs, cs.length = n * size → NewB w p cs e w' → (size = 1 → z.cells.size = 1 → cs = List.replicate n (z.cells[0]!)) → K (.slice (some p) n n) w') : SemW P (Instr.makeSlice t (.int .i64 (n : Int)) (.int .i64 (n : Int))) w K := by
  obtain ⟨i, hi, hz, hs, hb⟩ := info_parts hT.h
  have h63' : (n : Int) ≤ 9223372036854775807 := by
    have h := h63
    simp [maxLen] at h
    omega
  have hb' : (i.bytes : Int) * (n : Int) ≤ 281474976710656 := by
    have h : ((i.bytes * n : Nat) : Int) ≤ 281474976710656 := by rw [hb]; omega
    rwa [Int.natCast_mul] at h
  have hr := run_makeSlice (P := P) w t e i z ht hi hz .i64 .i64 n n (by omega) (by omega) (by simp [hs, hcells]) hb' h63'
  simp only [Int.toNat_natCast] at hr
  refine SemW.of_run hr (hK _ _ (madeCells z.cells (n * i.size)).toList (by rw [Array.length_toList, size_madeCells, hs]) ⟨rfl, by simp⟩ fun h1 h2 => ?_)
  subst h1
  rw [hs]
  unfold madeCells
  apply List.ext_getElem?
  intro j
  by_cases hj : j < n
  · simp [h2, hj, Nat.mod_one]
  · simp [hj]
theorem ownsRow_blk {w w' : World} {base : Nat} {e : TypeId} {size : Nat} {v : Value} {n : Nat} {xs : List Value} (h : w.ownsRow base e size v n xs) (hk : ∀ g, v.ownBlock = some g → w'.heap[g]? = w.heap[g]?) : w'.ownsRow base e size v n xs := by
  refine ⟨h.1, ?_⟩
  rcases h.2 with h2 | ⟨g, cap, cur, rfl, hb, hg, h3⟩
  · exact .inl h2
  · exact .inr ⟨g, cap, cur, rfl, hb, by rw [hk g rfl]; exact hg, h3⟩
theorem CallW.mono {P : Program} {f : Value} {args : List Value} {w : World} {K K' : Value → World → Prop} (h : CallW P f args w K) (hK : ∀ v w', K v w' → K' v w') : CallW P f args w K' := by
  unfold CallW at *
  split at h
  · exact ⟨h.1, h.2.mono fun e w' ⟨v, he, hk⟩ => ⟨v, he, hK v w' hk⟩⟩
  · obtain ⟨fn, ts, as, bd, hy, hR⟩ := h
    exact ⟨fn, ts, as, bd, hy, hR.mono fun e w' ⟨v, he, hk⟩ => ⟨v, he, hK v w' hk⟩⟩
  · exact h
theorem lpSet_keep {w : World} {l : Nat} {rc : Loop} {st : LoopState} {pd : Option Code} : Keep (fun k => k ≠ l) w (lpSet w l rc st pd) :=
  ⟨rfl, rfl, rfl, by simp [lpSet], fun k _ hk => World.putObj_heap_other hk⟩
theorem Lp.lt {w : World} {l : Nat} {rc : Loop} {st : LoopState} {pd : Option Code} (h : Lp l rc st pd w) : l < w.heap.size := (Array.getElem?_eq_some_iff.1 h).1
theorem Lp.set {w : World} {l : Nat} {rc : Loop} {st : LoopState} {pd : Option Code} (h : Lp l rc st pd w) (st' : LoopState) (pd' : Option Code) : Lp l rc st' pd' (lpSet w l rc st' pd') := World.putObj_heap_same h.lt
theorem Lp.keep {w w' : World} {l : Nat} {rc : Loop} {st : LoopState} {pd : Option Code} {S : Nat → Prop} (h : Lp l rc st pd w) (k : Keep S w w') (hs : S l) : Lp l rc st pd w' := (k.block _ h.lt hs).trans h
theorem lpSet_size {w : World} {l : Nat} {rc : Loop} {st : LoopState} {pd : Option Code} : (lpSet w l rc st pd).heap.size = w.heap.size := by simp [lpSet]
theorem SemW_append1o {P : Program} {base : Nat} {w : World} {t ty e : TypeId} {z : Value} {size bytes : Nat} (ht : P.underlying t = some (.slice e)) (hT : TI P e z size bytes) (hzs : z.cells.size = size) (hsz : 0 < size ∧ size ≤ 16777216)
    {v X : Value} {n : Nat} {xs : List Value} (hB : w.ownsRow base e size v n xs) (hbase : base ≤ w.heap.size) (hX : X.cells.size = size) (h1 : X.cells.toList.all Value.oneCell' = true)
    (hbytes : n + 1 ≤ maxLen ∧ (n + 1) * bytes ≤ 140737488355328) {K : Value → Value → World → Prop}
    (hK : ∀ s v' w', w'.ownsRow base e size v' (n + 1) (xs ++ X.cells.toList) → w.grownBy w' v.ownBlock → K s v' w') :
    SemW P (Instr.buildSlice t 1 #[(0, X)]) w fun s w1 => SemW P (Builtin.append_ #[t, t] ty #[v, s]) w1 (K s) := by
  refine SemW_buildSlice (vs := [X]) ht hT hzs (by simp) rfl (by simpa using hX) (by simpa using hsz.2) fun p w1 hN => ?_
  have hB1 : w1.ownsRow base e size v n xs := by rw [hN.w]; exact hB.alloc _
  have hat := hN.at_
  simp only [List.flatMap_cons, List.flatMap_nil, List.append_nil] at hat
  obtain ⟨i, hi, hz, hs, hb⟩ := info_parts hT.h
  have hnw : ∀ j u, X.cells.toList[j]? = some u → w1.cell? (p.add j) = some u := hat
  obtain ⟨v', w', hr, ho, hg, hnil⟩ := run_append_own (P := P) w1 base t ty e i z size bytes ht hi hz hs hb hzs hsz.1 v n xs hB1 p 1 1 X.cells.toList (by simp [hX]) hnw (List.all_eq_true.1 h1) hbytes.1 hbytes.2 (by rw [hN.size]; omega)
  refine SemW.of_run hr (hK _ v' w' ho (grownBy_trans (by rw [hN.w]; exact World.grownBy_alloc _ _ _) hg))
theorem operWpIn_mono' {P : Program} {r : Option Nat} {o : Oper} {a : Act} {w : World} {K K' : Act → World → Prop} {n : Nat} {ds : List DF} {M M' : FL → World → Prop} (hk : ∀ a w, K a w → K' a w)
    (h : o.wpIn (fw r) 0 P a w K (NQ n ds M)) : o.wpIn (fw r) 0 P a w K' (NQ n ds M') := by
  refine ⟨h.1, ?_⟩
  have hh := h.2
  generalize (o.semAt (fw r).round a.eval).run P w = rr at *
  have hq : ∀ e, e ≠ .normal → ∀ a w, NQ n ds M e a w → NQ n ds M' e a w := fun e he a w h => by cases e <;> first | exact (he rfl).elim | exact h
  cases rr with
  | ok x w' =>
    cases x <;> simp only [Oper.uponIn] at hh ⊢ <;>
      first
        | exact hk _ _ hh
        | exact ⟨hh.1, CallsIn.mono hh.2 (fun e w'' he => by cases e <;> first | exact hk _ _ he | exact hq _ (by simp) _ _ he | (obtain ⟨a0, w0, h0⟩ := he; exact ⟨a0, w0, hq _ (by simp) _ _ h0⟩))⟩
        | exact ⟨hh.1, RowsIn.mono hh.2 (fun _ _ he => hk _ _ he)⟩
        | exact ⟨hh.1, RoundIn.mono hh.2 (fun e w'' he => by cases e <;> first | exact hk _ _ he | exact hq _ (by simp) _ _ he | (obtain ⟨a0, w0, h0⟩ := he; exact ⟨a0, w0, hq _ (by simp) _ _ h0⟩))⟩
  | halt x w' => cases x <;> simp only [Oper.uponIn] at hh ⊢ <;> exact hq _ (by simp) _ _ hh
inductive OT where
  | done
  | stop
  | alt (i : Nat) (t : OT) (rest : OT)
def OT.idx : OT → List Nat
  | .alt i _ r => i :: r.idx
  | _ => []
def OT.ok (n : Nat) (l : List Oper) : Bool → OT → Nat → Array Bool → Bool
  | _, .done, _, listed => Region.ready .any l.toArray listed == []
  | head, .stop, _, _ => !head
  | head, .alt i t rest, f, listed => (!head || (OT.alt i t rest).idx == Region.ready .any l.toArray listed) && decide (0 < f) && OT.ok n l true t (f - 1) (listed.setIfInBounds i true) && OT.ok n l false rest f listed && (match l[i]? with | some o => stat n l [o] [] | none => false)
def et (P : Program) (l : List Oper) (K : FL → World → Prop) : OT → FL → World → Prop
  | .done, L, w => K L w
  | .stop, _, _ => True
  | .alt i t rest, L, w => (match l[i]? with
      | some o => ∀ t0, eg P l t0 [o] [] L w fun L' w' => et P l K t L' w'
      | none => False) ∧ et P l K rest L w
mutual
theorem et_sound {P : Program} {r : Option Nat} {n : Nat} {ds : List DF} {l : List Oper} {K : FL → World → Prop} : ∀ (t : OT) (f : Nat) (listed : Array Bool) (L : FL) (a : Act) (w : World), OT.ok n l true t f listed = true → Fr n ds L a → et P l K t L w →
    wpAnyIn (fw r) 0 P .any l.toArray (NQ n ds K) f listed a w
  | .done, f, listed, L, a, w, h, hf, he => by
    have h0 : Region.ready .any l.toArray listed = [] := by simpa [OT.ok] using h
    cases f with
    | zero => exact ⟨h0, L, hf, he⟩
    | succ f => exact ⟨fun _ => ⟨L, hf, he⟩, fun i hi => by rw [h0] at hi; cases hi⟩
  | .stop, f, listed, L, a, w, h, hf, he => by simp [OT.ok] at h
  | .alt i t rest, f, listed, L, a, w, h, hf, he => by
    simp only [OT.ok, Bool.not_true, Bool.false_or, Bool.and_eq_true, beq_iff_eq, decide_eq_true_eq] at h
    obtain ⟨⟨⟨⟨h1, h2⟩, h3⟩, h4⟩, h5⟩ := h
    obtain ⟨f, rfl⟩ : ∃ g, f = g + 1 := ⟨f - 1, by omega⟩
    refine ⟨fun h0 => by rw [h0] at h1; simp [OT.idx] at h1, fun j hj => ?_⟩
    rw [← h1] at hj
    exact et_alts (.alt i t rest) f listed L a w (by simp only [OT.ok, Bool.not_false, Bool.true_or, Bool.and_eq_true, decide_eq_true_eq, Nat.add_sub_cancel]; exact ⟨⟨⟨⟨trivial, by omega⟩, by simpa using h3⟩, h4⟩, h5⟩) hf he j hj
theorem et_alts {P : Program} {r : Option Nat} {n : Nat} {ds : List DF} {l : List Oper} {K : FL → World → Prop} : ∀ (t : OT) (f : Nat) (listed : Array Bool) (L : FL) (a : Act) (w : World), OT.ok n l false t (f + 1) listed = true → Fr n ds L a → et P l K t L w →
    ∀ j ∈ t.idx, wpOpIn (fw r) 0 P l.toArray (NQ n ds K) j (wpAnyIn (fw r) 0 P .any l.toArray (NQ n ds K) f (listed.setIfInBounds j true)) a w
  | .done, f, listed, L, a, w, h, hf, he => by simp [OT.idx]
  | .stop, f, listed, L, a, w, h, hf, he => by simp [OT.idx]
  | .alt i t rest, f, listed, L, a, w, h, hf, he => by
    simp only [OT.ok, Bool.not_false, Bool.true_or, Bool.and_eq_true, decide_eq_true_eq, Nat.add_sub_cancel] at h
    obtain ⟨⟨⟨_, h3⟩, h4⟩, h6⟩ := h
    intro j hj
    by_cases hji : j = i
    · subst hji
      obtain ⟨he1, _⟩ := he
      split at he1
      · rename_i o ho
        have hs : stat n l [o] [] = true := by rw [ho] at h6; exact h6
        have h5 := eg_sound (r := r) [o] [] [] L a w (Inv.start hf) hs (he1 _)
        have h0 : l.toArray[j]? = some o := by simpa using ho
        unfold wpOpIn
        simp only [h0]
        unfold wpListIn at h5
        have key : ∀ a' w', wpListIn (fw r) 0 P l.toArray (NQ n ds fun L' w' => et P l K t L' w') [] a' w' → wpAnyIn (fw r) 0 P .any l.toArray (NQ n ds K) f (listed.setIfInBounds j true) a' w' := fun a' w' ⟨L', hL', he'⟩ =>
          et_sound t f _ L' a' w' h3 hL' he'
        split at h5
        · rename_i hw
          rw [if_pos hw]
          exact operWpIn_mono' key h5
        · rename_i hw
          rw [if_neg hw]
          exact ⟨h5.1, key _ _ h5.2⟩
      · exact he1.elim
    · refine et_alts rest f listed L a w h4 hf he.2 j ?_
      simpa [OT.idx, hji] using hj
end
theorem Run_any {P : Program} {r : Option Nat} {n : Nat} {ds : List DF} {k : List Td} {L : FL} {w : World} {Q : Exit → List DF → FL → World → Prop} {id : Nat} {l : List Oper} (t : OT)
    (hm : P.follows .mixedOrders = true) (hok : OT.ok n l true t l.toArray.size (Array.replicate l.toArray.size false) = true)
    (h : ∀ w1, Ext w w1 → w1.heap.size = w.heap.size → et P l (fun L' w' => Run P r n ds k L' w' Q) t L w1) : Run P r n ds (.code (.region id l.toArray true) :: k) L w Q := fun a ha => by
  refine wpIn_mono (wpIn_region_any hm (et_sound t _ _ L a _ hok ha (h _ (Ext.drew w) rfl))) fun e a' w' hq => ?_
  cases e <;> first | exact hq.elim | (obtain ⟨L', hL, hK⟩ := hq; exact hK a' hL)
theorem SemW_allocT {P : Program} {w : World} {t : TypeId} {z : Value} {size bytes : Nat} (hT : TI P t z size bytes) {K : Value → World → Prop} (h : ∀ p w', NewB w p z.cells.toList t w' → K (.pointer (some p)) w') :
    SemW P (Instr.alloc t true (.tuple #[])) w K := by
  obtain ⟨i, hi, hz, _⟩ := info_parts hT.h
  exact SemW_alloc hi hz h
theorem loadVar_row {P : Program} {w : World} {t T : TypeId} {p : Addr} {v : Value} (h : oneCell P t = true) (hr : Row w p T [v]) : (loadVar t p).run P w = .ok v w := by
  have h2 := hr.n
  simp only [AtN, add_zero] at h2
  rw [loadVar_one h (Ext.refl w) h2.1, h2.2.1]
theorem range_start {w6 w7 : World} {rc : Loop} (h : w7 = (w6.alloc (.deferred (some []))).alloc (.loop { rc with state := .ready, pending := none })) :
    Ext w6 w7 ∧ w7.heap.size = w6.heap.size + 2 ∧ Lp (w6.heap.size + 1) rc .ready none w7 ∧ w7.heap[w6.heap.size]? = some (.deferred (some [])) := by
  have hs : (w6.alloc (.deferred (some []))).heap.size = w6.heap.size + 1 := by simp
  have e1 : Ext w6 (w6.alloc (.deferred (some []))) := (Below.refl _ _).alloc (Nat.le_refl _) _
  have e2 : Ext (w6.alloc (.deferred (some []))) w7 := by rw [h]; exact (Below.refl _ _).alloc (Nat.le_refl _) _
  have h1 : (w6.alloc (.deferred (some []))).heap[w6.heap.size]? = some (.deferred (some [])) := by
    show (w6.heap.push _)[w6.heap.size]? = _
    simp
  refine ⟨e1.trans e2, by rw [h]; simp, ?_, by rw [e2.block _ (by omega)]; exact h1⟩
  rw [h]
  show ((w6.alloc (.deferred (some []))).heap.push _)[w6.heap.size + 1]? = _
  rw [← hs]; exact Array.getElem?_push_size
theorem putObj_keep {w : World} {d : Nat} {o : Obj} : Keep (fun k => k ≠ d) w (w.putObj d o) := ⟨rfl, rfl, rfl, by simp, fun k _ hk => World.putObj_heap_other hk⟩
theorem after_out {P : Program} {r : Option Nat} {n id : Nat} {Q : Exit → Act → World → Prop} : ∀ k : List Td, unw id k = none → after P r n k Q (.exit id) = Q (.exit id)
  | [], _ => rfl
  | .blk i :: k, h => by
    unfold unw at h
    rw [after_blk_exit]
    split at h
    · cases h
    · rename_i hi; rw [if_neg hi]; exact after_out k h
  | .code c :: k, h => (after_out k h : after P r n k Q (.exit id) = Q (.exit id))
  | .lp ds J :: k, h => (after_out k h : after P r n k Q (.exit id) = Q (.exit id))
  | .sc :: k, h => (after_out k h : after P r n k Q (.exit id) = Q (.exit id))
theorem Run_out {P : Program} {r : Option Nat} {n : Nat} {ds : List DF} {k : List Td} {L : FL} {w : World} {Q : Exit → List DF → FL → World → Prop} {id : Nat} (hk : unw id k = none) (h : Q (.exit id) ds L w) : Run P r n ds (.code (.exit id) :: k) L w Q := fun a ha => by
  refine wpIn_exit ?_
  rw [after_out k hk]; exact ⟨ds, L, ha, h⟩
theorem isS_cells {v : Value} (h : IsS v) : v.cells = #[v] := by
  rcases h.ex with rfl | ⟨a, n, c, rfl⟩ <;> rfl
theorem isS_one {v : Value} (h : IsS v) : v.cells.size = 1 ∧ v.cells.toList.all Value.oneCell' = true := by
  rcases h.ex with rfl | ⟨a, n, c, rfl⟩ <;> exact ⟨rfl, rfl⟩
theorem Sl.flat {α : Type} [Enc α] {w w' : World} {p : Addr} {t : TypeId} {cs : List Value} {xs : List α} (h : NewB w p cs t w') (hr : ∀ i (h : i < xs.length), Enc.rep w' ((cs.drop (i * Enc.n α)).take (Enc.n α)) xs[i]) (hb : xs.length ≤ 140737488355328) :
    Sl w' (.slice (some p) xs.length xs.length) xs := by
  refine ⟨by simp, rfl, Nat.le_refl _, hb, by simp; omega, fun i hi => ⟨_, hr i hi, ?_⟩⟩
  intro j v hj
  simp only [slAt_mk]
  rw [add_add]
  refine h.at_ _ _ ?_
  rw [List.getElem?_take] at hj
  split at hj
  · rw [List.getElem?_drop] at hj; exact hj
  · cases hj
def has : List Nat → Nat → Bool
  | [], _ => false
  | v :: r, d => if v = d then true else has r d
def less : List Nat → Nat → List Nat
  | [], _ => []
  | v :: r, d => if v = d then less r d else v :: less r d
def prune : List Nat → FL → FL
  | _, [] => []
  | vs, (d, some v) :: r => if has vs d = true then (d, some v) :: prune (less vs d) r else prune vs r
  | vs, (d, none) :: r => if has vs d = true then prune (less vs d) r else prune vs r
def strike : List Nat → FL → FL
  | _, [] => []
  | vs, (d, some v) :: r => if has vs d = true then strike vs r else (d, some v) :: strike (d :: vs) r
  | vs, (d, none) :: r => if has vs d = true then strike vs r else strike (d :: vs) r
theorem has_less (vs : List Nat) (d k : Nat) : has (less vs d) k = true → has vs k = true ∧ d ≠ k := by
  induction vs with
  | nil => intro h; cases h
  | cons v r ih =>
    intro h
    unfold less at h
    by_cases hv : v = d
    · rw [if_pos hv] at h
      obtain ⟨h1, h2⟩ := ih h
      refine ⟨?_, h2⟩
      unfold has
      rw [if_neg (by omega)]; exact h1
    · rw [if_neg hv] at h
      unfold has at h ⊢
      by_cases hk : v = k
      · rw [if_pos hk]; exact ⟨rfl, by omega⟩
      · rw [if_neg hk] at h ⊢; exact ih h
theorem prune_fnd : ∀ (L : FL) (vs : List Nat) (k : Nat) (v : Value), fnd (prune vs L) k = some v → has vs k = true ∧ fnd L k = some v
  | [], vs, k, v, h => by cases vs <;> simp [prune, fnd] at h
  | (d, none) :: r, vs, k, v, h => by
    unfold prune at h
    split at h
    · obtain ⟨e1, e2⟩ := prune_fnd r (less vs d) k v h
      obtain ⟨e1, e3⟩ := has_less _ _ _ e1
      exact ⟨e1, by simp [fnd, e3, e2]⟩
    · rename_i hd
      obtain ⟨e1, e2⟩ := prune_fnd r vs k v h
      have : d ≠ k := fun e => by subst e; exact hd e1
      exact ⟨e1, by simp [fnd, this, e2]⟩
  | (d, some u) :: r, vs, k, v, h => by
    unfold prune at h
    split at h
    · rename_i hd
      by_cases hk : d = k
      · subst hk
        simp [fnd] at h
        exact ⟨hd, by simp [fnd, h]⟩
      · simp only [fnd, hk, if_false] at h
        obtain ⟨e1, e2⟩ := prune_fnd r (less vs d) k v h
        exact ⟨(has_less _ _ _ e1).1, by simp [fnd, hk, e2]⟩
    · rename_i hd
      obtain ⟨e1, e2⟩ := prune_fnd r vs k v h
      have : d ≠ k := fun e => by subst e; exact hd e1
      exact ⟨e1, by simp [fnd, this, e2]⟩
theorem Fr.prune {n : Nat} {ds : List DF} {L : FL} {a : Act} {vs : List Nat} (h : Fr n ds L a) : Fr n ds (prune vs L) a :=
  ⟨h.size, h.defers, fun k v hk => h.at_ k v (prune_fnd L vs k v hk).2⟩
theorem SubB_append {A B L : FL} (h1 : SubB A L) (h2 : SubB B L) : SubB (A ++ B) L := by
  induction A with
  | nil => exact h2
  | cons x r ih =>
    obtain ⟨d, o⟩ := x
    cases o with
    | none => exact ih h1
    | some v => exact ⟨h1.1, ih h1.2⟩
theorem SubB_strike : ∀ (L L0 : FL) (vs : List Nat), (∀ k, has vs k = false → fnd (L0 ++ L) k = fnd L k) → SubB (strike vs L) (L0 ++ L)
  | [], _, vs, _ => by cases vs <;> exact trivial
  | (d, o) :: r, L0, vs, h => by
    have hstep : ∀ vs', (∀ k, has vs' k = false → has vs k = false ∧ d ≠ k) → SubB (strike vs' r) (L0 ++ (d, o) :: r) := fun vs' hvs => by
      have := SubB_strike r (L0 ++ [(d, o)]) vs' fun k hk => by
        obtain ⟨h1, h2⟩ := hvs k hk
        have := h k h1
        simp only [fnd, h2, if_false] at this
        simpa using this
      simpa using this
    have hsame : has vs d = true → ∀ k, has vs k = false → has vs k = false ∧ d ≠ k := fun hd k hk => ⟨hk, fun e => by subst e; rw [hd] at hk; cases hk⟩
    have hmore : ∀ k, has (d :: vs) k = false → has vs k = false ∧ d ≠ k := fun k hk => by
      unfold has at hk
      split at hk
      · cases hk
      · rename_i hne; exact ⟨hk, hne⟩
    cases o with
    | none =>
      unfold strike
      split
      · rename_i hd; exact hstep vs (hsame hd)
      · exact hstep _ hmore
    | some v =>
      unfold strike
      split
      · rename_i hd; exact hstep vs (hsame hd)
      · rename_i hd
        refine ⟨?_, hstep _ hmore⟩
        rw [h d (by simpa using hd)]
        simp [fnd]
theorem SubB_struck (vs : List Nat) (L : FL) : SubB (strike vs L) L := by
  simpa using SubB_strike L [] vs fun _ _ => rfl
section
variable {P : Program} {r : Option Nat} {n : Nat} {ds : List DF} {k : List Td} {L : FL} {w : World} {Q : Exit → List DF → FL → World → Prop}
theorem Run_regionV {id : Nat} {l : List Oper} (vs : List Nat) (hs : stat n l l [] = true) (h : ∀ t0, eg P l t0 l [] L w fun L' w' => Run P r n ds k (prune vs L') w' Q) : Run P r n ds (.code (.region id l.toArray false) :: k) L w Q := fun a ha => by
  refine wpIn_mono (wpIn_region_lit (eg_sound l [] [] L a w (Inv.start ha) hs (h _))) fun e a' w' hq => ?_
  cases e <;> first | exact hq.elim | (obtain ⟨L', hL, hK⟩ := hq; exact hK a' hL.prune)
theorem Run_drawnV {id : Nat} {l : List Oper} (vs : List Nat) (hm : P.follows .mixedOrders = true) (hB : Region.lexB .any l.toArray = true) (hs : stat n l l [] = true)
    (h : ∀ t0, qg P (Ext w) l w t0 l [] L fun L' => ∀ w', Ext w w' → Run P r n ds k (prune vs L') w' Q) : Run P r n ds (.code (.region id l.toArray true) :: k) L w Q := fun a ha => by
  refine wpIn_region_quiet (C := Ext w) hm hB (Ext.drew w) ?_
  have := qg_sound (P := P) (C := Ext w) (w := w) (fun _ h => h) l [] [] L a (Inv.start ha) hs (h _)
  have mono : ∀ (l' : List Oper) (a : Act), wpQuiet P l.toArray (Ext w) (fun a' => ∃ L', Fr n ds L' a' ∧ ∀ w', Ext w w' → Run P r n ds k (prune vs L') w' Q) l' a →
      wpQuiet P l.toArray (Ext w) (fun a' => ∀ w', Ext w w' → after P r n k (QA n Q) .normal a' w') l' a := by
    intro l'
    induction l' with
    | nil => intro a h w' hw'; obtain ⟨L', hL, hK⟩ := h; exact hK w' hw' a hL.prune
    | cons o l' ih =>
      intro a h
      unfold wpQuiet at h ⊢
      split at h
      · rename_i hw; rw [if_pos hw]; exact Oper.quiet_mono (fun a => ih a) h
      · rename_i hw; rw [if_neg hw]; exact ih _ h
  simpa using mono _ _ this
theorem Run_tailV {id : Nat} {l : List Oper} (vs : List Nat) (m : Nat)
    (hm : P.follows .mixedOrders = true) (hB : Region.lexTailB .any l.toArray m = true) (hs1 : stat n l (l.take m) [] = true) (hs2 : stat n l (l.drop m) [] = true)
    (h : ∀ t0, qg P (Ext w) l w t0 (l.take m) [] L fun L1 => ∀ w1, Ext w w1 → ∀ t1, eg P l t1 (l.drop m) [] L1 w1 fun L' w' => Run P r n ds k (prune vs L') w' Q) : Run P r n ds (.code (.region id l.toArray true) :: k) L w Q := fun a ha => by
  refine wpIn_region_tail (C := Ext w) m hm hB (Ext.drew w) ?_
  have := qg_sound (P := P) (C := Ext w) (w := w) (fun _ h => h) (l.take m) [] [] L a (Inv.start ha) hs1 (h _)
  have mono : ∀ (l' : List Oper) (a : Act), wpQuiet P l.toArray (Ext w) (fun a' => ∃ L', Fr n ds L' a' ∧ ∀ w1, Ext w w1 → ∀ t1, eg P l t1 (l.drop m) [] L' w1 fun L' w' => Run P r n ds k (prune vs L') w' Q) l' a →
      wpQuiet P l.toArray (Ext w) (fun a' => ∀ w', Ext w w' → wpListIn (fw r) 0 P l.toArray (after P r n k (QA n Q)) (l.drop m) a' w') l' a := by
    intro l'
    induction l' with
    | nil =>
      intro a h w' hw'
      obtain ⟨L', hL, hK⟩ := h
      have h1 := eg_sound (r := r) (l.drop m) [] [] L' a w' (Inv.start hL) hs2 (hK w' hw' _)
      exact wpListIn_mono (fun e a w hq => by cases e <;> first | exact hq.elim | (obtain ⟨L', hL, hK⟩ := hq; exact hK a hL.prune)) _ _ _ h1
    | cons o l' ih =>
      intro a h
      unfold wpQuiet at h ⊢
      split at h
      · rename_i hw; rw [if_pos hw]; exact Oper.quiet_mono (fun a => ih a) h
      · rename_i hw; rw [if_neg hw]; exact ih _ h
  exact mono _ _ this
theorem Run_loopV {σ : Type} {body : Code} (mod : List Nat) (Lv : σ → FL) (I : σ → World → Prop) (μ : σ → Nat) (s0 : σ) (hL : SubB (Lv s0) L) (h0 : I s0 w)
    (round : ∀ s w, I s w → Run P r n ds (.code body :: .lp ds (fun L' w' => ∃ s', SubB (Lv s' ++ strike mod L) L' ∧ I s' w' ∧ μ s' < μ s) :: k) (Lv s ++ strike mod L) w Q) : Run P r n ds (.code (.loop body) :: k) L w Q :=
  Run_loop (fun s => Lv s ++ strike mod L) I μ s0 (SubB_append hL (SubB_struck _ _)) h0 round
theorem Run_condS {j : Nat} {x y : Code} {b : Bool} (hc : ∀ t0, rho (lk t0 L) (.tmp j) = .bool b) (h1 : b = true → Run P r n ds (.code x :: k) (strike [j] L) w Q) (h2 : b = false → Run P r n ds (.code y :: k) (strike [j] L) w Q) :
    Run P r n ds (.code (.cond (.tmp j) x y) :: k) L w Q := Run_cond hc (fun h => Run_sub (SubB_struck _ _) (h1 h)) (fun h => Run_sub (SubB_struck _ _) (h2 h))
theorem Run_cutV {c : Code} {σ : Type} (mod : List Nat) (Lv : σ → FL) (I : σ → World → Prop) (h : Run P r n ds (.code c :: .lp ds (fun L' w' => ∃ s, SubB (Lv s ++ strike mod L) L' ∧ I s w') :: k) L w Q)
    (hk : ∀ s w', I s w' → Run P r n ds k (Lv s ++ strike mod L) w' Q) : Run P r n ds (.code c :: k) L w Q :=
  Run_cut _ h fun _ w' ⟨s, hs, hi⟩ => Run_sub hs (hk s w' hi)
end
section
variable {P : Program} {W w : World}
def Ret (P : Program) (f : FuncId) (args : List Value) (w : World) (R : Value → World → Prop) : Prop := Calls P f args.toArray w fun e w' => ∃ v, e = .returned v ∧ Ext w w' ∧ R v w'
theorem Ret.mono {f : FuncId} {args : List Value} {R R' : Value → World → Prop} (h : Ret P f args w R) (hR : ∀ v w', Ext w w' → R v w' → R' v w') : Ret P f args w R' :=
  Calls.mono h fun e w' ⟨v, he, hw, hr⟩ => ⟨v, he, hw, hR v w' hw hr⟩
end
theorem wrapI {x : Int} (h1 : -9223372036854775808 ≤ x) (h2 : x ≤ 9223372036854775807) : IntKind.i64.wrap x = x := wrap_in h1 h2
theorem tdivI {a b : Int} (h : 0 ≤ a) : a.tdiv b = a / b := tdiv_eq h
theorem tmodI {a b : Int} (h : 0 ≤ a) : a.tmod b = a % b := tmod_eq h
def PureAt (P : Program) (ops : Array Oper) (o : Oper) (v : Value) (a : Act) : Prop :=
  (Region.wanted o (yielded ops a.tmps) = true ∧ ∀ w, (execOp a.eval o).run P w = .ok (.value v) w) ∨ (Region.wanted o (yielded ops a.tmps) = false ∧ v = undef)
theorem PureAt.of_same {P : Program} {ops : Array Oper} {o : Oper} {v : Value} {a a' : Act} (hy : PureAt P ops o v a) (he : execOp a'.eval o = execOp a.eval o)
    (hw : Region.wanted o (yielded ops a'.tmps) = Region.wanted o (yielded ops a.tmps)) : PureAt P ops o v a' := by
  unfold PureAt at *
  rw [he, hw]; exact hy
section
variable {P : Program} {r : Option Nat} {ops : Array Oper} {n : Nat} {ds : List DF} {M : FL → World → Prop}
theorem PureAt.wpOpIn {i : Nat} {o : Oper} {v : Value} {a : Act} {w : World} {Q : Exit → Act → World → Prop} (hi : ops[i]? = some o) (hd : ∀ c, o.op ≠ .defer c) (hy : PureAt P ops o v a) {K : Act → World → Prop} (h : K (a.put o.dst v) w) : Go.wpOpIn (fw r) 0 P ops Q i K a w := by
  unfold Go.wpOpIn
  simp only [hi]
  rcases hy with ⟨h1, h2⟩ | ⟨h1, rfl⟩
  · rw [if_pos h1]
    exact oper_wpIn_of hd (.inl ⟨v, w, h2 w, h⟩)
  · rw [if_neg (by simp [h1])]
    exact ⟨fun _ _ => trivial, h⟩
theorem wpOpIn_put {j : Nat} {oi oj : Oper} {v : Value} (hj : ops[j]? = some oj) (hap : oi.apart ops oj = true) (hsi : ∀ cs b, oi.op ≠ .select cs b) (hsj : ∀ cs b, oj.op ≠ .select cs b) (hnd : ∀ c, oj.op ≠ .defer c) {K : Act → World → Prop} {a : Act} {w : World}
    (hy : PureAt P ops oi v a) (h : wpOpIn (fw r) 0 P ops (NQ n ds M) j K (a.put oi.dst v) w) : wpOpIn (fw r) 0 P ops (NQ n ds M) j (fun a' w' => PureAt P ops oi v a' ∧ K (a'.put oi.dst v) w') a w := by
  obtain ⟨h1, h2, h3⟩ := Oper.apart_spec hap
  have keep : ∀ u, PureAt P ops oi v (a.put oj.dst u) := fun u => hy.of_same (execOp_put oi hsi a oj.dst u h3) (wanted_put oi a oj.dst u h3)
  unfold wpOpIn at *
  simp only [hj] at *
  rw [wanted_put oj a oi.dst v h1] at h
  split
  · rename_i hw
    simp only [hw, if_true] at h
    refine ⟨fun _ _ => trivial, ?_⟩
    have hh := h.2
    rw [Oper.semAt_eq _ _ _ hnd] at hh ⊢
    rw [execOp_put oj hsj a oi.dst v h1] at hh
    have hput : ∀ u, (a.put oi.dst v).put oj.dst u = (a.put oj.dst u).put oi.dst v := fun u => Act.put_comm a v u h2
    generalize (execOp a.eval oj).run P w = rr at *
    cases rr with
    | ok x w' =>
      cases x with
      | value u => exact ⟨keep u, by rw [← hput]; exact hh⟩
      | skip => exact ⟨keep _, by rw [← hput]; exact hh⟩
      | defer d =>
        simp only [Oper.uponIn] at hh ⊢
        have e1 : ({ (a.put oi.dst v) with defers := d :: (a.put oi.dst v).defers } : Act).put oj.dst undef = (({ a with defers := d :: a.defers } : Act).put oj.dst undef).put oi.dst v := by
          have := Act.put_comm { a with defers := d :: a.defers } v undef h2
          rw [← this]
          cases oi.dst <;> rfl
        rw [e1] at hh
        refine ⟨?_, hh⟩
        have := keep undef
        have e2 : (({ a with defers := d :: a.defers } : Act).put oj.dst undef).tmps = (a.put oj.dst undef).tmps := by cases oj.dst <;> rfl
        refine this.of_same ?_ (by rw [e2])
        congr 1
        funext x
        cases x <;> simp only [Act.eval, e2]
      | enter g args =>
        simp only [Oper.uponIn] at hh ⊢
        refine ⟨hh.1, CallsIn.mono hh.2 fun e w'' he => ?_⟩
        cases e with
        | returned u => exact ⟨keep u, by rw [← hput]; exact he⟩
        | panicked ch => exact he.elim
        | outgrown => obtain ⟨_, _, h0⟩ := he; exact h0.elim
      | row x y =>
        simp only [Oper.uponIn] at hh ⊢
        exact ⟨hh.1, RowsIn.mono hh.2 fun u w'' he => ⟨keep u, by rw [← hput]; exact he⟩⟩
      | round l g ts as bd =>
        simp only [Oper.uponIn] at hh ⊢
        refine ⟨hh.1, RoundIn.mono hh.2 fun e w'' he => ?_⟩
        cases e with
        | returned u => exact ⟨keep u, by rw [← hput]; exact he⟩
        | panicked ch => exact he.elim
        | outgrown => obtain ⟨_, _, h0⟩ := he; exact h0.elim
      | _ => simp only [Oper.uponIn] at hh
    | halt x w' => cases x <;> simp only [Oper.uponIn] at hh ⊢ <;> exact hh.elim
  · rename_i hw
    simp only [hw] at h
    exact ⟨fun _ _ => trivial, keep _, by rw [← Act.put_comm a v undef h2]; exact h.2⟩
theorem wpAnyIn_first {i : Nat} {oi : Oper} {v : Value} (hi : ops[i]? = some oi) (hsel : ∀ (j : Nat) (o : Oper) cs b, ops[j]? = some o → o.op ≠ .select cs b) (hdef : ∀ (j : Nat) (o : Oper) c, ops[j]? = some o → o.op ≠ .defer c) :
    ∀ (fuel : Nat) (listed : Array Bool) (a : Act) (w : World),
      (∀ j oj, ops[j]? = some oj → j ≠ i → listed.getD j true = false → (∀ e ∈ oj.after, Region.binds .any e = true → e.on ≠ i) → oi.apart ops oj = true) →
      i ∈ Region.ready .any ops listed → PureAt P ops oi v a →
      wpAnyIn (fw r) 0 P .any ops (NQ n ds M) fuel (listed.setIfInBounds i true) (a.put oi.dst v) w → wpAnyIn (fw r) 0 P .any ops (NQ n ds M) (fuel + 1) listed a w := by
  intro fuel
  induction fuel with
  | zero =>
    intro listed a w _ hr hy H
    refine ⟨fun h => (by rw [h] at hr; cases hr), fun j hj => ?_⟩
    by_cases hji : j = i
    · subst hji; exact hy.wpOpIn hi (fun c => hdef j oi c hi) H
    · have := ready_mono hj hji
      rw [H.1] at this; cases this
  | succ f ih =>
    intro listed a w hfree hr hy H
    refine ⟨fun h => (by rw [h] at hr; cases hr), fun j hj => ?_⟩
    by_cases hji : j = i
    · subst hji; exact hy.wpOpIn hi (fun c => hdef j oi c hi) H
    · have h1 := H.2 j (ready_mono hj hji)
      obtain ⟨hjun, oj, hoj, hall⟩ := mem_ready.1 hj
      have hun := (mem_ready.1 hr).1
      have hnot : ∀ e ∈ oj.after, Region.binds .any e = true → e.on ≠ i := fun e he hb heq => by
        have h1 := hall e he hb
        rw [heq, getD_both hun] at h1
        cases h1
      have h2 := wpOpIn_put hoj (hfree j oj hoj hji hjun hnot) (fun cs b => hsel i oi cs b hi) (fun cs b => hsel j oj cs b hoj) (fun c => hdef j oj c hoj) hy h1
      have hfree' : ∀ k ok, ops[k]? = some ok → k ≠ i → (listed.setIfInBounds j true).getD k true = false →
          (∀ e ∈ ok.after, Region.binds .any e = true → e.on ≠ i) → oi.apart ops ok = true := fun k ok hk hki hun hno => by
        refine hfree k ok hk hki ?_ hno
        by_cases hjk : j = k
        · subst hjk; exact hjun
        · rw [getD_set_ne true hjk] at hun; exact hun
      refine wpOpIn_mono (fun a' w' h3 => ih (listed.setIfInBounds j true) a' w' hfree' (ready_mono hr (Ne.symm hji)) h3.1 ?_) h2
      rw [Array.setIfInBounds_comm _ _ hji]
      exact h3.2
end
def pureOp : Op → Bool
  | .move _ | .assign _ | .binOp _ _ _ _ _ | .unOp _ _ _ | .fieldAddr _ _ _ | .indexAddr _ _ _ | .slice _ _ _ _ _ | .field _ _ _ | .convert _ _ _ | .extract _ _ | .makeFunc _ _ _ | .nilCheck _ => true
  | .call c => match c.callee with | .builtin .len => true | .builtin .min => true | .builtin .max => true | _ => false
  | _ => false
theorem qg_pure {P : Program} {C : World → Prop} {w : World} {all : List Oper} {t0 : Nat → Value} {o : Oper} {L : FL} {K : FL → Prop} (hp : pureOp o.op = true) (hg : o.guard = none) (hq : qg P C all w t0 [o] [] L K) :
    ∃ v, ∀ w', (execOp (rho (lk t0 L)) o).run P w' = .ok (.value v) w' := by
  have key : ∀ K' : Prop → Value → Prop, (∀ ob v, K' ob v → ob) → qop P w (rho (lk t0 L)) o.op K' → ldOp o.op = false → ∃ v, ∀ w', (execOp (rho (lk t0 L)) o).run P w' = .ok (.value v) w' := by
    intro K' hK h hl
    obtain ⟨ob, v, h1, h2⟩ := qop_sound h
    exact ⟨v, fun w' => h2 (hK _ _ h1) w' fun h => by rw [hl] at h; cases h⟩
  unfold qg at hq
  simp only [hg, gchain, gimp, lkG] at hq
  split at hq
  · rename_i c x y hop; rw [hop] at hp; cases hp
  · rename_i c hop
    rw [hop] at hp
    split at hq
    · rename_i f hf
      simp [pureOp, hf] at hp
    · have h2 : qop P w (rho (lk t0 L)) o.op (fun ob v => ob ∧ (match o.dst with | none => qg P C all w t0 [] [] L K | some d => qg P C all w t0 [] [] ((d, some v) :: L) K)) := by rw [hop]; exact hq
      exact key _ (fun ob v h => h.1) h2 (by rw [hop]; rfl)
  · rename_i op hnp hnc
    refine key _ (fun ob v h => ?_) hq ?_
    · exact h.1
    · cases hop : o.op <;> rw [hop] at hp <;> first | rfl | cases hp
inductive OP where
  | done
  | stop
  | alt (i : Nat) (t : OP) (rest : OP)
  | first (i : Nat) (t : OP)
def OP.idx : OP → List Nat
  | .alt i _ r => i :: r.idx
  | _ => []
def OP.ok (n : Nat) (l : List Oper) : Bool → OP → Nat → Array Bool → Bool
  | _, .done, _, listed => Region.ready .any l.toArray listed == []
  | head, .stop, _, _ => !head
  | head, .alt i t rest, f, listed => (!head || (OP.alt i t rest).idx == Region.ready .any l.toArray listed) && decide (0 < f) && OP.ok n l true t (f - 1) (listed.setIfInBounds i true) && OP.ok n l false rest f listed && (match l[i]? with | some o => stat n l [o] [] | none => false)
  | head, .first i t, f, listed => head && decide (0 < f) && (Region.ready .any l.toArray listed).contains i && Region.free .any l.toArray listed i && OP.ok n l true t (f - 1) (listed.setIfInBounds i true) && (match l[i]? with | some o => stat n l [o] [] && pureOp o.op && o.guard.isNone | none => false)
def noDefer (l : List Oper) : Bool := l.all fun o => match o.op with | .defer _ => false | .select _ _ => false | _ => true
def ep (P : Program) (l : List Oper) (K : FL → World → Prop) : OP → FL → World → Prop
  | .done, L, w => K L w
  | .stop, _, _ => True
  | .alt i t rest, L, w => (match l[i]? with
      | some o => ∀ t0, eg P l t0 [o] [] L w fun L' w' => ep P l K t L' w'
      | none => False) ∧ ep P l K rest L w
  | .first i t, L, w => match l[i]? with
      | some o => ∀ t0, qg P (Ext w) l w t0 [o] [] L fun L' => ep P l K t L' w
      | none => False
theorem noDefer_spec {l : List Oper} (h : noDefer l = true) : (∀ (j : Nat) (o : Oper) cs b, l.toArray[j]? = some o → o.op ≠ .select cs b) ∧ (∀ (j : Nat) (o : Oper) c, l.toArray[j]? = some o → o.op ≠ .defer c) := by
  have key : ∀ (j : Nat) (o : Oper), l.toArray[j]? = some o → (match o.op with | .defer _ => false | .select _ _ => false | _ => true) = true := fun j o hj =>
    List.all_eq_true.1 h o (List.mem_of_getElem? (by simpa using hj))
  refine ⟨fun j o cs b hj he => ?_, fun j o c hj he => ?_⟩ <;> (have := key j o hj; rw [he] at this; cases this)
theorem ep_pure {P : Program} {n : Nat} {ds : List DF} {l : List Oper} {i : Nat} {o : Oper} {L : FL} {a : Act} {w : World} {K : FL → Prop} (hi : l[i]? = some o) (hs : stat n l [o] [] = true) (hp : pureOp o.op = true) (hg : o.guard = none) (hf : Fr n ds L a)
    (h : ∀ t0, qg P (Ext w) l w t0 [o] [] L K) : ∃ v, PureAt P l.toArray o v a ∧ ∃ L', Fr n ds L' (a.put o.dst v) ∧ K L' := by
  have hI := Inv.start hf
  have hq := h fun k => a.tmps.getD k undef
  obtain ⟨v, hv⟩ := qg_pure hp hg hq
  have hw : Region.wanted o (yielded l.toArray a.tmps) = true := by simp [Region.wanted, hg]
  have hsel : execOp a.eval o = execOp (rho (lk (fun k => a.tmps.getD k undef) L)) o := by
    refine execOp_congr o (fun cs b e => by rw [e] at hp; cases hp) fun x hx => ?_
    have := hI.useO (G := []) (fun c hc => by cases hc) (x := x) (by cases x <;> simp [useO, useK])
    simpa [lkG] using this
  have hrun : ∀ w', (execOp a.eval o).run P w' = .ok (.value v) w' := fun w' => by rw [hsel]; exact hv w'
  refine ⟨v, .inl ⟨hw, hrun⟩, ?_⟩
  have := qg_sound (P := P) (C := Ext w) (w := w) (fun _ h => h) [o] [] [] L a hI hs hq
  unfold wpQuiet at this
  rw [if_pos hw] at this
  obtain ⟨u, hu, hn⟩ := this
  have hu := hu w (Ext.refl w)
  unfold Oper.quietAt at hu
  rw [hrun w] at hu
  have : u = v := hu.2.symm
  subst this
  exact hn
mutual
theorem ep_sound {P : Program} {r : Option Nat} {n : Nat} {ds : List DF} {l : List Oper} {K : FL → World → Prop} (hd : noDefer l = true) : ∀ (t : OP) (f : Nat) (listed : Array Bool) (L : FL) (a : Act) (w : World), OP.ok n l true t f listed = true → Fr n ds L a → ep P l K t L w →
    wpAnyIn (fw r) 0 P .any l.toArray (NQ n ds K) f listed a w
  | .done, f, listed, L, a, w, h, hf, he => by
    have h0 : Region.ready .any l.toArray listed = [] := by simpa [OP.ok] using h
    cases f with
    | zero => exact ⟨h0, L, hf, he⟩
    | succ f => exact ⟨fun _ => ⟨L, hf, he⟩, fun i hi => by rw [h0] at hi; cases hi⟩
  | .stop, f, listed, L, a, w, h, hf, he => by simp [OP.ok] at h
  | .first i t, f, listed, L, a, w, h, hf, he => by
    simp only [OP.ok, Bool.true_and, Bool.and_eq_true, decide_eq_true_eq] at h
    obtain ⟨⟨⟨⟨h1, h2⟩, h3⟩, h4⟩, h5⟩ := h
    obtain ⟨f, rfl⟩ : ∃ g, f = g + 1 := ⟨f - 1, by omega⟩
    unfold ep at he
    split at he
    · rename_i o ho
      rw [ho] at h5
      simp only [Bool.and_eq_true, Option.isNone_iff_eq_none] at h5
      obtain ⟨⟨hs, hp⟩, hg⟩ := h5
      obtain ⟨v, hv, L', hL', hK⟩ := ep_pure (ds := ds) (n := n) ho hs hp hg hf he
      have h0 : l.toArray[i]? = some o := by simpa using ho
      refine wpAnyIn_first h0 (noDefer_spec hd).1 (noDefer_spec hd).2 f listed a w (Region.free_spec h0 h3) (by simpa using h2) hv ?_
      exact ep_sound hd t f _ L' _ w (by simpa using h4) hL' hK
    · exact he.elim
  | .alt i t rest, f, listed, L, a, w, h, hf, he => by
    simp only [OP.ok, Bool.not_true, Bool.false_or, Bool.and_eq_true, beq_iff_eq, decide_eq_true_eq] at h
    obtain ⟨⟨⟨⟨h1, h2⟩, h3⟩, h4⟩, h5⟩ := h
    obtain ⟨f, rfl⟩ : ∃ g, f = g + 1 := ⟨f - 1, by omega⟩
    refine ⟨fun h0 => by rw [h0] at h1; simp [OP.idx] at h1, fun j hj => ?_⟩
    rw [← h1] at hj
    exact ep_alts hd (.alt i t rest) f listed L a w (by simp only [OP.ok, Bool.not_false, Bool.true_or, Bool.and_eq_true, decide_eq_true_eq, Nat.add_sub_cancel]; exact ⟨⟨⟨⟨trivial, by omega⟩, by simpa using h3⟩, h4⟩, h5⟩) hf he j hj
theorem ep_alts {P : Program} {r : Option Nat} {n : Nat} {ds : List DF} {l : List Oper} {K : FL → World → Prop} (hd : noDefer l = true) : ∀ (t : OP) (f : Nat) (listed : Array Bool) (L : FL) (a : Act) (w : World), OP.ok n l false t (f + 1) listed = true → Fr n ds L a → ep P l K t L w →
    ∀ j ∈ t.idx, wpOpIn (fw r) 0 P l.toArray (NQ n ds K) j (wpAnyIn (fw r) 0 P .any l.toArray (NQ n ds K) f (listed.setIfInBounds j true)) a w
  | .done, f, listed, L, a, w, h, hf, he => by simp [OP.idx]
  | .stop, f, listed, L, a, w, h, hf, he => by simp [OP.idx]
  | .first _ _, f, listed, L, a, w, h, hf, he => by simp [OP.idx]
  | .alt i t rest, f, listed, L, a, w, h, hf, he => by
    simp only [OP.ok, Bool.not_false, Bool.true_or, Bool.and_eq_true, decide_eq_true_eq, Nat.add_sub_cancel] at h
    obtain ⟨⟨⟨_, h3⟩, h4⟩, h6⟩ := h
    intro j hj
    by_cases hji : j = i
    · subst hji
      obtain ⟨he1, _⟩ := he
      split at he1
      · rename_i o ho
        have hs : stat n l [o] [] = true := by rw [ho] at h6; exact h6
        have h5 := eg_sound (r := r) [o] [] [] L a w (Inv.start hf) hs (he1 _)
        have h0 : l.toArray[j]? = some o := by simpa using ho
        unfold wpOpIn
        simp only [h0]
        unfold wpListIn at h5
        have key : ∀ a' w', wpListIn (fw r) 0 P l.toArray (NQ n ds fun L' w' => ep P l K t L' w') [] a' w' → wpAnyIn (fw r) 0 P .any l.toArray (NQ n ds K) f (listed.setIfInBounds j true) a' w' := fun a' w' ⟨L', hL', he'⟩ =>
          ep_sound hd t f _ L' a' w' h3 hL' he'
        split at h5
        · rename_i hw
          rw [if_pos hw]
          exact operWpIn_mono' key h5
        · rename_i hw
          rw [if_neg hw]
          exact ⟨h5.1, key _ _ h5.2⟩
      · exact he1.elim
    · refine ep_alts hd rest f listed L a w h4 hf he.2 j ?_
      simpa [OP.idx, hji] using hj
end
theorem Run_ep {P : Program} {r : Option Nat} {n : Nat} {ds : List DF} {k : List Td} {L : FL} {w : World} {Q : Exit → List DF → FL → World → Prop} {id : Nat} {l : List Oper} (vs : List Nat) (t : OP)
    (hm : P.follows .mixedOrders = true) (hd : noDefer l = true) (hok : OP.ok n l true t l.toArray.size (Array.replicate l.toArray.size false) = true)
    (h : ∀ w1, Ext w w1 → w1.heap.size = w.heap.size → ep P l (fun L' w' => Run P r n ds k (prune vs L') w' Q) t L w1) : Run P r n ds (.code (.region id l.toArray true) :: k) L w Q := fun a ha => by
  refine wpIn_mono (wpIn_region_any hm (ep_sound hd t _ _ L a _ hok ha (h _ (Ext.drew w) rfl))) fun e a' w' hq => ?_
  cases e <;> first | exact hq.elim | (obtain ⟨L', hL, hK⟩ := hq; exact hK a' hL.prune)
theorem At.append {w : World} {a : Addr} {xs ys : List Value} (h1 : At w a xs) (h2 : At w (a.add xs.length) ys) : At w a (xs ++ ys) := fun j v hj => by
  by_cases h : j < xs.length
  · exact h1 j v (by rw [List.getElem?_append_left h] at hj; exact hj)
  · rw [List.getElem?_append_right (by omega)] at hj
    have := h2 (j - xs.length) v hj
    rwa [add_add, show xs.length + (j - xs.length) = j by omega] at this
theorem At.left {w : World} {a : Addr} {xs ys : List Value} (h : At w a (xs ++ ys)) : At w a xs := fun j v hj => h j v (by rw [List.getElem?_append_left (List.getElem?_eq_some_iff.1 hj).1]; exact hj)
theorem At.right {w : World} {a : Addr} {xs ys : List Value} (h : At w a (xs ++ ys)) : At w (a.add xs.length) ys := fun j v hj => by
  rw [add_add]
  exact h _ v (by rw [List.getElem?_append_right (by omega)]; simpa using hj)
structure Cs {α : Type} [Enc α] (w : World) (css : List (List Value)) (xs : List α) : Prop where
  len : css.length = xs.length
  rep : ∀ i (h : i < css.length) (h' : i < xs.length), Enc.rep w css[i] xs[i]
theorem Cs.nil {α : Type} [Enc α] (w : World) : Cs w [] ([] : List α) := ⟨rfl, fun i h => by simp at h⟩
theorem Cs.ext {α : Type} [Enc α] {w w' : World} {css : List (List Value)} {xs : List α} (h : Cs w css xs) (hx : Ext w w') : Cs w' css xs := ⟨h.len, fun i h1 h2 => Enc.ext _ _ _ _ hx (h.rep i h1 h2)⟩
theorem Cs.append {α : Type} [Enc α] {w : World} {c1 c2 : List (List Value)} {x1 x2 : List α} (h1 : Cs w c1 x1) (h2 : Cs w c2 x2) : Cs w (c1 ++ c2) (x1 ++ x2) := by
  have l1 := h1.len
  refine ⟨by simp [h1.len, h2.len], fun i h h' => ?_⟩
  by_cases hi : i < c1.length
  · rw [List.getElem_append_left hi, List.getElem_append_left (by omega)]; exact h1.rep i hi (by omega)
  · simp only [List.length_append] at h h'
    rw [List.getElem_append_right (by omega), List.getElem_append_right (by omega)]
    have := h2.rep (i - c1.length) (by omega) (by omega)
    simpa [l1] using this
theorem Cs.one {α : Type} [Enc α] {w : World} {cs : List Value} {x : α} (h : Enc.rep w cs x) : Cs w [cs] [x] := ⟨rfl, fun i h1 h2 => by
  have : i = 0 := by simp at h1; omega
  subst this; exact h⟩
theorem Cs.tail {α : Type} [Enc α] {w : World} {cs : List Value} {css : List (List Value)} {x : α} {xs : List α} (h : Cs w (cs :: css) (x :: xs)) : Cs w css xs := ⟨by simpa using h.len, fun i h1 h2 => h.rep (i + 1) (by simpa using h1) (by simpa using h2)⟩
theorem Cs.flen {α : Type} [Enc α] {w : World} : ∀ {css : List (List Value)} {xs : List α}, Cs w css xs → css.flatten.length = xs.length * Enc.n α
  | [], [], _ => by simp
  | [], _ :: _, h => by have := h.len; simp at this
  | _ :: _, [], h => by have := h.len; simp at this
  | cs :: css, x :: xs, h => by
    have h0 := Enc.len _ _ _ (h.rep 0 (by simp) (by simp))
    simp only [List.getElem_cons_zero] at h0
    rw [List.flatten_cons, List.length_append, Cs.flen h.tail, h0, List.length_cons, Nat.add_mul]; omega
theorem Sl.cells {α : Type} [Enc α] {w : World} {v : Value} {xs : List α} (h : Sl w v xs) : ∃ css, Cs w css xs ∧ At w (slAt v) css.flatten := by
  have key : ∀ (ys : List α) (k : Nat), (∀ i (hi : i < ys.length), ∃ cs, Enc.rep w cs ys[i] ∧ At w ((slAt v).add ((k + i) * Enc.n α)) cs) → ∃ css, Cs w css ys ∧ At w ((slAt v).add (k * Enc.n α)) css.flatten := by
    intro ys
    induction ys with
    | nil => intro k _; exact ⟨[], Cs.nil w, fun j v hj => by simp at hj⟩
    | cons y ys ih =>
      intro k hk
      obtain ⟨cs, h1, h2⟩ := hk 0 (by simp)
      obtain ⟨css, h3, h4⟩ := ih (k + 1) fun i hi => by
        have := hk (i + 1) (by simpa using hi)
        rwa [show k + (i + 1) = k + 1 + i by omega] at this
      refine ⟨cs :: css, ⟨by simp [h3.len], fun i hi hi' => ?_⟩, ?_⟩
      · cases i with
        | zero => exact h1
        | succ i => exact h3.rep i (by simpa using hi) (by simpa using hi')
      · rw [List.flatten_cons]
        refine At.append (by simpa using h2) ?_
        rw [Enc.len _ _ _ h1, add_add]
        rwa [Nat.add_mul, Nat.one_mul] at h4
  have := key xs 0 fun i hi => by rw [Nat.zero_add]; exact h.at_ i hi
  simpa [add_zero] using this
theorem Cs.at_ {α : Type} [Enc α] {w : World} {a : Addr} : ∀ {css : List (List Value)} {xs : List α}, Cs w css xs → At w a css.flatten → ∀ i (h : i < xs.length), ∃ cs, Enc.rep w cs xs[i] ∧ At w (a.add (i * Enc.n α)) cs
  | [], [], _, _, i, h => by simp at h
  | [], _ :: _, hc, _, _, _ => by have := hc.len; simp at this
  | _ :: _, [], _, _, i, h => by simp at h
  | cs :: css, x :: xs, hc, ha, i, h => by
    rw [List.flatten_cons] at ha
    have h0 := hc.rep 0 (by simp) (by simp)
    cases i with
    | zero => exact ⟨cs, h0, by simpa [add_zero] using ha.left⟩
    | succ i =>
      have hr := ha.right
      simp only [List.getElem_cons_zero] at h0
      rw [Enc.len _ _ _ h0] at hr
      obtain ⟨c, h1, h2⟩ := Cs.at_ hc.tail hr i (by simpa using h)
      refine ⟨c, by simpa using h1, ?_⟩
      rw [add_add] at h2
      rwa [show (i + 1) * Enc.n α = Enc.n α + i * Enc.n α by rw [Nat.add_mul, Nat.one_mul, Nat.add_comm]]
structure BufL {α : Type} [Enc α] (e : TypeId) (W w : World) (v : Value) (xs : List α) : Prop where
  ex : ∃ css, Cs w css xs ∧ Buf e (Enc.n α) W w v xs.length css.flatten
section
variable {α : Type} [Enc α] {e : TypeId} {W w : World} {v : Value} {xs : List α}
theorem BufL.nil (h : Ext W w) : BufL e W w (.slice none 0 0) ([] : List α) := ⟨[], Cs.nil w, Buf.nil h⟩
theorem BufL.ext0 (h : BufL e W w v xs) : Ext W w := by obtain ⟨_, _, hb⟩ := h.ex; exact hb.ext
theorem BufL.isS (h : BufL e W w v xs) : IsS v ∧ slLen v = xs.length := by
  obtain ⟨css, hc, hb⟩ := h.ex
  obtain ⟨h1, h2, h3, h4⟩ := ownsRow_val hb.own
  exact ⟨h1, h2⟩
theorem BufL.sl (h : BufL e W w v xs) (hbig : xs.length ≤ 140737488355328) : Sl w v xs := by
  obtain ⟨css, hc, hb⟩ := h.ex
  obtain ⟨h1, h2, h3, h4⟩ := ownsRow_val hb.own
  refine ⟨h1, h2, h3, hbig, by simpa [maxLen] using h4, fun i hi => ?_⟩
  by_cases h0 : 0 < css.flatten.length
  · exact hc.at_ (ownsRow_at hb.own h0) i hi
  · obtain ⟨cs, hr⟩ : ∃ cs, Enc.rep w cs xs[i] := ⟨_, hc.rep i (by rw [hc.len]; exact hi) hi⟩
    have := hc.flen
    have hl := Enc.len _ _ _ hr
    have hz : xs.length * Enc.n α = 0 := by omega
    rcases Nat.mul_eq_zero.1 hz with hz | hz
    · omega
    · rw [hz] at hl
      have : cs = [] := List.eq_nil_of_length_eq_zero hl
      subst this
      exact ⟨[], hr, fun j v hj => by simp at hj⟩
theorem BufL.ext (h : BufL e W w v xs) {w' : World} (hx : Ext w w') : BufL e W w' v xs := by
  obtain ⟨css, hc, hb⟩ := h.ex
  exact ⟨css, hc.ext hx, ⟨ownsRow_ext hb.own hx, hb.ext.trans hx⟩⟩
theorem BufL.new {w' : World} {p : Addr} {css : List (List Value)} (hN : NewB w p css.flatten e w') (hW : Ext W w) (hc : Cs w' css xs) (hm : xs.length ≤ maxLen) : BufL e W w' (.slice (some p) xs.length xs.length) xs := by
  refine ⟨css, hc, ⟨⟨hc.flen, .inr ⟨p.block, xs.length, css.flatten.toArray, ?_, ?_, ?_, Nat.le_refl _, hm, ?_⟩⟩, hW.trans hN.ext⟩⟩
  · rw [hN.p]
  · rw [hN.blk]; exact hW.size
  · rw [hN.blk]; exact hN.heap
  all_goals simp [hc.flen]
  exact List.take_of_length_le (by rw [hc.flen]; exact Nat.le_refl _)
theorem SemW_appendL {P : Program} {t ty : TypeId} {z : Value} {bytes : Nat} (ht : P.underlying t = some (.slice e)) (hT : TI P e z (Enc.n α) bytes) (hzs : z.cells.size = Enc.n α) (hsz : 0 < Enc.n α) {x : Value} {ys : List α} (hB : BufL e W w v xs) (hx : Sl w x ys)
    (hone : ∀ css : List (List Value), Cs w css ys → css.flatten.all Value.oneCell' = true) (hr : ∀ w', Ext W w' → ∀ css, (Cs w css xs → Cs w' css xs) ∧ (Cs w css ys → Cs w' css ys))
    (h63 : xs.length + ys.length ≤ maxLen) (hbytes : (xs.length + ys.length) * bytes ≤ 140737488355328) {K : Value → World → Prop} (hK : ∀ v' w', BufL e W w' v' (xs ++ ys) → w.grownBy w' v.ownBlock → Ext W w' → K v' w') :
    SemW P (Builtin.append_ #[t, t] ty #[v, x]) w K := by
  obtain ⟨css, hc, hb⟩ := hB.ex
  obtain ⟨dss, hd, hat⟩ := hx.cells
  refine SemW_append (m := ys.length) (news := dss.flatten) ht hT hzs hsz hb hx.s hx.len hd.flen (fun _ => hat) (List.all_eq_true.1 (hone _ hd)) h63 hbytes fun v' w' hB' hg _ => hK v' w' ⟨css ++ dss, ?_, ?_⟩ hg hB'.ext
  · exact ((hr w' hB'.ext css).1 hc).append ((hr w' hB'.ext dss).2 hd)
  · rw [List.flatten_append, List.length_append]; exact hB'
end
class Flat (α : Type) [Enc α] : Prop where
  any : ∀ w w' cs (x : α), Enc.rep w cs x → Enc.rep w' cs x
  one : ∀ w cs (x : α), Enc.rep w cs x → cs.all Value.oneCell' = true
instance : Flat Int := ⟨fun _ _ _ _ h => h, fun _ _ _ h => by rw [h.1]; rfl⟩
theorem Cs.any {α : Type} [Enc α] [Flat α] {w w' : World} {css : List (List Value)} {xs : List α} (h : Cs w css xs) : Cs w' css xs := ⟨h.len, fun i h1 h2 => Flat.any w w' _ _ (h.rep i h1 h2)⟩
theorem Cs.one' {α : Type} [Enc α] [Flat α] {w : World} : ∀ {css : List (List Value)} {xs : List α}, Cs w css xs → css.flatten.all Value.oneCell' = true
  | [], _, _ => rfl
  | _ :: _, [], h => by have := h.len; simp at this
  | cs :: css, x :: xs, h => by
    rw [List.flatten_cons, List.all_append, Cs.one' h.tail, Flat.one w cs x (h.rep 0 (by simp) (by simp))]; rfl
theorem SemW_appendF {α : Type} [Enc α] [Flat α] {e : TypeId} {W w : World} {v : Value} {xs : List α} {P : Program} {t ty : TypeId} {z : Value} {bytes : Nat} (ht : P.underlying t = some (.slice e)) (hT : TI P e z (Enc.n α) bytes) (hzs : z.cells.size = Enc.n α) (hsz : 0 < Enc.n α) {x : Value} {ys : List α} (hB : BufL e W w v xs) (hx : Sl w x ys)
    (hb : xs.length + ys.length ≤ maxLen ∧ (xs.length + ys.length) * bytes ≤ 140737488355328) {K : Value → World → Prop} (hK : ∀ v' w', BufL e W w' v' (xs ++ ys) → w.grownBy w' v.ownBlock → Ext W w' → K v' w') :
    SemW P (Builtin.append_ #[t, t] ty #[v, x]) w K :=
  SemW_appendL ht hT hzs hsz hB hx (fun _ h => h.one') (fun _ _ _ => ⟨Cs.any, Cs.any⟩) hb.1 hb.2 hK
theorem SemW_append1F {α : Type} [Enc α] [Flat α] {e : TypeId} {W w : World} {v : Value} {xs : List α} {P : Program} {t ty : TypeId} {z X : Value} {bytes : Nat} (ht : P.underlying t = some (.slice e)) (hT : TI P e z (Enc.n α) bytes) (hzs : z.cells.size = Enc.n α) (hsz : 0 < Enc.n α ∧ Enc.n α ≤ 16777216) {x : α} (hB : BufL e W w v xs) (hx : Enc.rep w X.cells.toList x)
    (hb : xs.length + 1 ≤ maxLen ∧ (xs.length + 1) * bytes ≤ 140737488355328) {K : Value → Value → World → Prop} (hK : ∀ s v' w', BufL e W w' v' (xs ++ [x]) → w.grownBy w' v.ownBlock → Ext W w' → v' ≠ .slice none 0 0 → K s v' w') :
    SemW P (Instr.buildSlice t 1 #[(0, X)]) w fun s w1 => SemW P (Builtin.append_ #[t, t] ty #[v, s]) w1 (K s) := by
  obtain ⟨css, hc, hb'⟩ := hB.ex
  refine SemW_append1 ht hT hzs hsz hb' (by simpa using Enc.len _ _ _ hx) (Flat.one _ _ _ hx) hb fun s v' w' hB' hg hn => hK s v' w' ⟨css ++ [X.cells.toList], hc.any.append (Cs.one (Flat.any _ _ _ _ hx)), ?_⟩ hg hB'.ext hn
  rw [List.flatten_append]
  simpa using hB'
theorem SemW_buildF {α : Type} [Enc α] [Flat α] {e : TypeId} {W w : World} {P : Program} {t : TypeId} {z : Value} {bytes : Nat} (ht : P.underlying t = some (.slice e)) (hT : TI P e z (Enc.n α) bytes) (hzs : z.cells.size = Enc.n α) (hz0 : 0 < Enc.n α) (hW : Ext W w)
    {parts : Array (Nat × Value)} (vs : List Value) (xs : List α) {n : Nat} (hp : parts.toList = vs.zipIdx.map fun p => (p.2, p.1)) (hn : n = vs.length) (hr : Cs w (vs.map fun v => v.cells.toList) xs) (hsm : n * Enc.n α ≤ 16777216)
    {K : Value → World → Prop} (hK : ∀ p w', BufL e W w' (.slice (some p) xs.length xs.length) xs → Sl w' (.slice (some p) xs.length xs.length) xs → Ext w w' → K (.slice (some p) xs.length xs.length) w') : SemW P (Instr.buildSlice t n parts) w K := by
  have hlen : vs.length = xs.length := by have := hr.len; simpa using this
  have hm : xs.length ≤ 16777216 := by
    have := Nat.le_mul_of_pos_right n hz0
    omega
  refine SemW_buildSlice (vs := vs) ht hT hzs hp hn (fun v hv => ?_) hsm fun p w' hN => ?_
  · obtain ⟨i, hi, rfl⟩ := List.getElem_of_mem hv
    have := Enc.len _ _ _ (hr.rep i (by simpa using hi) (by omega))
    simpa using this
  · have e1 : (vs.flatMap fun v => v.cells.toList) = (vs.map fun v => v.cells.toList).flatten := by rw [List.flatMap_def]
    rw [e1] at hN
    have hB := BufL.new (W := W) hN hW hr.any (by simp [maxLen]; omega)
    have := hK p w' hB (hB.sl (by omega)) hN.ext
    rw [hn, hlen]; exact this
instance : Nonempty (Nat → Value) := ⟨fun _ => undef⟩
structure Cons (P : Program) (yv : Value) (items : List (List Value)) (priv kp : Nat → Prop) (J : Nat → World → Prop) (Jx : World → Prop) : Prop where
  step : ∀ k w w', J k w → Keep (fun b => ¬ priv b) w w' → J k w'
  stepx : ∀ w w', Jx w → Keep (fun b => ¬ priv b) w w' → Jx w'
  yield : ∀ k w (h : k < items.length), J k w → CallW P yv items[k] w fun v w' => ∃ b, v = .bool b ∧ Keep kp w w' ∧ if b = true then J (k + 1) w' else Jx w'
theorem Run_lp_mono {P : Program} {r : Option Nat} {n : Nat} {as : Code} {J J' : FL → World → Prop} {L : FL} {w : World} {Q : Exit → List DF → FL → World → Prop} (h : Run P r n [] [.code as, .lp [] J] L w Q) (hJ : ∀ L1 w1, J L1 w1 → J' L1 w1) :
    Run P r n [] [.code as, .lp [] J'] L w Q := fun a ha => by
  refine wpIn_mono (h a ha) fun e a' w' hq => ?_
  cases e <;> first | exact hq | (obtain ⟨L1, h1, h2⟩ := hq; exact ⟨L1, h1, hJ _ _ h2⟩)
theorem Run_Q_mono {P : Program} {r : Option Nat} {n : Nat} {c : Code} {L : FL} {w : World} {Q Q' : Exit → List DF → FL → World → Prop} (h : Run P r n [] [.code c] L w Q) (hQ : ∀ e ds L w, Q e ds L w → Q' e ds L w) : Run P r n [] [.code c] L w Q' := fun a ha => by
  refine wpIn_mono (h a ha) fun e a' w' hq => ?_
  cases e <;> (obtain ⟨ds, L1, h1, h2⟩ := hq; exact ⟨ds, L1, h1, hQ _ _ _ _ h2⟩)
def BQ (kp : Nat → Prop) (l d : Nat) (I : World → Prop) (X : Option Nat → World → Prop) (w2 : World) : Exit → List DF → FL → World → Prop
  | .normal, _, _, w3 => Keep (fun b => kp b ∨ b = l ∨ b = d) w2 w3 ∧ I w3
  | .ret, _, _, w3 => Keep (fun b => kp b ∨ b = l ∨ b = d) w2 w3 ∧ X none w3
  | .exit id, _, _, w3 => Keep (fun b => kp b ∨ b = l ∨ b = d) w2 w3 ∧ X (some id) w3
  | _, _, _, _ => False
def xcode : Option Nat → Code
  | none => .ret
  | some id => .exit id
theorem Run_iter {P : Program} {n : Nat} {ds : List DF} {k : List Td} {L : FL} {w : World} {Q : Exit → List DF → FL → World → Prop} {g : Operand} {as bd : Code} {f : FuncId} {fi cap : Array Value} (ps : List Nat)
    (hg : ∀ t0, rho (lk t0 L) g = .func (.func f) fi cap) (hc : callable P f = true) (hlt : ∀ p ∈ ps, p < n) (items : List (List Value)) (hlen : ∀ x ∈ items, ps.length = x.length)
    (priv kp : Nat → Prop) (hpk : ∀ b, priv b → kp b) (hpriv : ∀ b, kp b → b < w.heap.size) (I : Nat → World → Prop) (X : Option Nat → World → Prop)
    (hit : ∀ (yv : Value) (J : Nat → World → Prop) (Jx : World → Prop) (w1 : World), Cons P yv items priv kp J Jx → Ext w w1 → J 0 w1 → Calls P f (fi ++ #[yv] ++ cap) w1 fun e w' => e = .returned (.tuple #[]) ∧ (Jx w' ∨ J items.length w'))
    (h0 : ∀ w1, Ext w w1 → w1.heap.size = w.heap.size + 2 → I 0 w1)
    (hI : ∀ j w1 w2, I j w1 → Keep (fun b => ¬ priv b ∧ b ≠ w.heap.size ∧ b ≠ w.heap.size + 1) w1 w2 → I j w2)
    (hX : ∀ e w1 w2, X e w1 → Keep (fun b => ¬ priv b ∧ b ≠ w.heap.size ∧ b ≠ w.heap.size + 1) w1 w2 → X e w2)
    (body : ∀ j (hj : j < items.length) w1, I j w1 → w.heap.size + 2 ≤ w1.heap.size → Run P (some (w.heap.size + 1)) n [] [.code as, .lp [] (fun L1 w1' => Keep (fun b => kp b ∨ b = w.heap.size + 1 ∨ b = w.heap.size) w1 w1' ∧
        ∀ w2, Keep (fun b => b ≠ w.heap.size + 1) w1' w2 → w2.heap.size = w1'.heap.size → Run P (some (w.heap.size + 1)) n [] [.code bd] L1 w2 (BQ kp (w.heap.size + 1) w.heap.size (I (j + 1)) X w2))] (zipL ps items[j] L) w1 (fun _ _ _ _ => False))
    (hfin : ∀ w', I items.length w' → w'.heap[w.heap.size]? = some (.deferred (some [])) → Run P none n (w.heap.size :: ds) k L w' Q)
    (hexit : ∀ e w', X e w' → w'.heap[w.heap.size]? = some (.deferred (some [])) → Run P none n (w.heap.size :: ds) (.code (xcode e) :: k) L w' Q) :
    Run P none n ds (.code (.rangeFunc g ps.toArray as bd) :: k) L w Q := by
  refine Run_range hg hc fun rc w1 hps has hbd hT hw1 => ?_
  obtain ⟨hx, hs, hl, hd⟩ := range_start hw1
  have hls : ∀ b, kp b → b ≠ w.heap.size ∧ b ≠ w.heap.size + 1 := fun b hb => by have := hpriv b hb; omega
  let J : Nat → World → Prop := fun j w' => I j w' ∧ Lp (w.heap.size + 1) rc .ready none w' ∧ w'.heap[w.heap.size]? = some (.deferred (some [])) ∧ w.heap.size + 2 ≤ w'.heap.size
  let Jx : World → Prop := fun w' => ∃ e, X e w' ∧ Lp (w.heap.size + 1) rc .done (some (xcode e)) w' ∧ w'.heap[w.heap.size]? = some (.deferred (some [])) ∧ w.heap.size + 2 ≤ w'.heap.size
  have hcons : Cons P (.func (.yield (w.heap.size + 1)) #[] #[]) items priv kp J Jx := by
    refine ⟨fun j a b ⟨h1, h2, h3, h4⟩ hk => ⟨hI _ _ _ h1 (hk.mono fun b _ hb => hb.1), h2.keep hk (fun hb => (hls _ (hpk _ hb)).2 rfl), (hk.block _ (by omega) (fun hb => (hls _ (hpk _ hb)).1 rfl)).trans h3, Nat.le_trans h4 hk.size⟩,
      fun a b ⟨e, h1, h2, h3, h4⟩ hk => ⟨e, hX _ _ _ h1 (hk.mono fun b _ hb => hb.1), h2.keep hk (fun hb => (hls _ (hpk _ hb)).2 rfl), (hk.block _ (by omega) (fun hb => (hls _ (hpk _ hb)).1 rfl)).trans h3, Nat.le_trans h4 hk.size⟩, fun j a hj ⟨h1, h2, h3, h4⟩ => ?_⟩
    unfold CallW
    simp only [Array.empty_append]
    refine yield_round (R := fun v w' => ∃ b, v = .bool b ∧ Keep kp a w' ∧ if b = true then J (j + 1) w' else Jx w') h2 hps has hbd hT (hlen _ (List.getElem_mem hj)) hlt ?_
    refine Run_lp_mono (body j hj a h1 h4) fun L1 a1 ⟨hk1, hrun⟩ => ?_
    have hl1 := h2.keep hk1 (.inr (.inl rfl))
    have hd1 := (hk1.block _ (by omega) (.inr (.inr rfl))).trans h3
    have s1 := hk1.size
    refine ⟨hl1, Run_Q_mono (hrun _ lpSet_keep lpSet_size) fun e ds' L2 a2 hq => ?_⟩
    have hl2 := hl1.set .busy none
    have k2 : Keep (fun b => b ≠ w.heap.size + 1) a1 (lpSet a1 (w.heap.size + 1) rc .busy none) := lpSet_keep
    have z2 : (lpSet a1 (w.heap.size + 1) rc .busy none).heap.size = a1.heap.size := lpSet_size
    have fin : ∀ st pd, Keep (fun b => kp b ∨ b = w.heap.size + 1 ∨ b = w.heap.size) (lpSet a1 (w.heap.size + 1) rc .busy none) a2 → Lp (w.heap.size + 1) rc .busy none a2 ∧ Keep kp a (lpSet a2 (w.heap.size + 1) rc st pd) ∧ Lp (w.heap.size + 1) rc st pd (lpSet a2 (w.heap.size + 1) rc st pd) ∧
        (lpSet a2 (w.heap.size + 1) rc st pd).heap[w.heap.size]? = some (.deferred (some [])) ∧ w.heap.size + 2 ≤ (lpSet a2 (w.heap.size + 1) rc st pd).heap.size := fun st pd hk => by
      have hl3 := hl2.keep hk (.inr (.inl rfl))
      have k4 : Keep (fun b => b ≠ w.heap.size + 1) a2 (lpSet a2 (w.heap.size + 1) rc st pd) := lpSet_keep
      have s2 := hk.size
      have s4 : (lpSet a2 (w.heap.size + 1) rc st pd).heap.size = a2.heap.size := lpSet_size
      refine ⟨hl3, ((hk1.mono fun b _ hb => .inl hb).trans ((k2.mono fun b _ hb => (hls b hb).2).trans ((hk.mono fun b _ hb => .inl hb).trans (k4.mono fun b _ hb => (hls b hb).2)))), hl3.set _ _, ?_, by omega⟩
      have e1 := (k2.block _ (by omega) (by omega)).trans hd1
      have e2 := (hk.block _ (by omega) (.inr (.inr rfl))).trans e1
      exact (k4.block _ (by omega) (by omega)).trans e2
    have stab : ∀ st pd, Keep (fun b => ¬ priv b ∧ b ≠ w.heap.size ∧ b ≠ w.heap.size + 1) a2 (lpSet a2 (w.heap.size + 1) rc st pd) := fun st pd => lpSet_keep.mono fun b _ hb => hb.2.2
    cases e with
    | normal =>
      obtain ⟨f1, f2, f3, f4, f5⟩ := fin .ready none hq.1
      exact ⟨f1, true, rfl, f2, by simp only [if_true]; exact ⟨hI _ _ _ hq.2 (stab _ _), f3, f4, f5⟩⟩
    | ret =>
      obtain ⟨f1, f2, f3, f4, f5⟩ := fin .done (some .ret) hq.1
      exact ⟨f1, false, rfl, f2, by simp only [Bool.false_eq_true, if_false]; exact ⟨none, hX _ _ _ hq.2 (stab _ _), f3, f4, f5⟩⟩
    | exit id =>
      obtain ⟨f1, f2, f3, f4, f5⟩ := fin .done (some (.exit id)) hq.1
      exact ⟨f1, false, rfl, f2, by simp only [Bool.false_eq_true, if_false]; exact ⟨some id, hX _ _ _ hq.2 (stab _ _), f3, f4, f5⟩⟩
    | goto _ => exact hq.elim
    | panic _ => exact hq.elim
    | outgrown => exact hq.elim
  refine (hit _ J Jx w1 hcons hx ⟨h0 w1 hx hs, hl, hd, by omega⟩).mono fun e w3 ⟨he, hj⟩ => ⟨_, he, ?_⟩
  rcases hj with ⟨e, h1, h2, h3, h4⟩ | ⟨h1, h2, h3, h4⟩
  · refine ⟨.done, some (xcode e), h2, by simp, ?_⟩
    have k4 : Keep (fun b => b ≠ w.heap.size + 1) w3 (lpSet w3 (w.heap.size + 1) rc .exhausted (some (xcode e))) := lpSet_keep
    exact hexit e _ (hX _ _ _ h1 (k4.mono fun b _ hb => hb.2.2)) ((k4.block _ (by omega) (by omega)).trans h3)
  · refine ⟨.ready, none, h2, by simp, ?_⟩
    have k4 : Keep (fun b => b ≠ w.heap.size + 1) w3 (lpSet w3 (w.heap.size + 1) rc .exhausted none) := lpSet_keep
    exact hfin _ (hI _ _ _ h1 (k4.mono fun b _ hb => hb.2.2)) ((k4.block _ (by omega) (by omega)).trans h3)
theorem RetM_one {d : Nat} {w : World} {K : World → Prop} (h : w.heap[d]? = some (.deferred (some []))) (hK : ∀ w', Keep (fun b => b ≠ d) w w' → w'.heap.size = w.heap.size → K w') : RetM [DF.m d] w K := ⟨h, hK _ putObj_keep (by simp)⟩
theorem loadVar_at {P : Program} {w : World} {t : TypeId} {p : Addr} {cs : List Value} (h : manyCell P t = true) (hne : P.cellsOf t ≠ 0) (hl : cs.length = P.cellsOf t) (ha : At w p cs) : (loadVar t p).run P w = .ok (.agg cs.toArray) w := by
  have key : ∀ (cs : List Value) (i : Nat), (∀ j v, cs[j]? = some v → w.cell? (p.add (i + j)) = some v) → hasN w p i cs.length ∧ memN w p i cs.length = cs := by
    intro cs
    induction cs with
    | nil => intro _ _; exact ⟨trivial, rfl⟩
    | cons c cs ih =>
      intro i h
      have h0 := h 0 c rfl
      rw [Nat.add_zero] at h0
      obtain ⟨h1, h2⟩ := ih (i + 1) fun j v hj => by
        rw [show i + 1 + j = i + (j + 1) by omega]
        exact h (j + 1) v hj
      refine ⟨⟨by unfold has1; rw [h0]; rfl, h1⟩, ?_⟩
      show mem w (p.add i) :: memN w p (i + 1) cs.length = c :: cs
      rw [h2]; unfold mem; rw [h0]; rfl
  obtain ⟨h1, h2⟩ := key cs 0 fun j v hj => by rw [Nat.zero_add]; exact ha j v hj
  rw [hl] at h1 h2
  rw [loadVar_agg h (Ext.refl w) h1 hne, h2]
theorem SemW_setW {P : Program} {w : World} {t T : TypeId} {X : Value} {p : Addr} {vs : List Value} {K : Unit → World → Prop} (hc : P.cellsOf t ≠ 0) (hX : X.cells.size = P.cellsOf t) (hg : Row w p T vs) (hvs : vs.length = P.cellsOf t) (h1 : X.cells.toList.all Value.oneCell' = true)
    (hK : ∀ w', Row w' p T X.cells.toList → Keep (fun k => k ≠ p.block) w w' → w'.heap.size = w.heap.size → K () w') : SemW P (Instr.storeAt t (.pointer (some p)) X) w K := by
  have := SemW_setN (P := P) (t := t) (X := X) (K := K) 0 hc hX hg (by omega) h1 fun w' h => hK w' (by
    have e : List.drop (P.cellsOf t) vs = [] := List.drop_eq_nil_of_le (by omega)
    simpa [e] using h)
  simpa [add_zero] using this
theorem blk_add (a : Addr) (i : Nat) : (a.add i).block = a.block := by unfold Addr.add; split <;> rfl
theorem Sl.keepF {α : Type} [Enc α] [Flat α] {w w' : World} {v : Value} {xs : List α} {S : Nat → Prop} (h : Sl w v xs) (k : Keep S w w') (hs : xs ≠ [] → S (slAt v).block) : Sl w' v xs :=
  ⟨h.s, h.len, h.cap, h.big, h.capM, fun i hi => by
    obtain ⟨cs, h1, h2⟩ := h.at_ i hi
    exact ⟨cs, Flat.any _ _ _ _ h1, h2.keep k (by rw [blk_add]; exact hs (fun e => by subst e; simp at hi))⟩⟩
theorem BufL.blk {α : Type} [Enc α] {e : TypeId} {W w : World} {v : Value} {xs : List α} (h : BufL e W w v xs) (hz : 0 < Enc.n α) (hne : xs ≠ []) : W.heap.size ≤ (slAt v).block ∧ (slAt v).block < w.heap.size := by
  obtain ⟨css, hc, hb⟩ := h.ex
  rcases hb.own.2 with ⟨rfl, h2⟩ | ⟨g, cap, cur, rfl, hbs, hg, _⟩
  · have := hc.flen
    have h3 := hb.own.1
    cases xs with
    | nil => exact (hne rfl).elim
    | cons x xs => simp at h2
  · exact ⟨hbs, (Array.getElem?_eq_some_iff.1 hg).1⟩
theorem Row.sl {α : Type} [Enc α] {w : World} {p : Addr} {t : TypeId} {css : List (List Value)} {xs : List α} (h : Row w p t css.flatten) (hc : Cs w css xs) (hb : xs.length ≤ 140737488355328) : Sl w (.slice (some p) xs.length xs.length) xs :=
  ⟨by simp, rfl, Nat.le_refl _, hb, by simp; omega, fun i hi => by simpa using hc.at_ h.at_ i hi⟩
theorem jq : type_of% @Run_seq := @Run_seq
theorem jk : type_of% @Run_skip := @Run_skip
theorem jc : type_of% @Run_scope := @Run_scope
theorem jl : type_of% @Run_label := @Run_label
theorem jb : type_of% @Run_sc := @Run_sc
theorem jo : type_of% @Run_block := @Run_block
theorem ji : type_of% @Run_blk := @Run_blk
theorem jx : type_of% @Run_exit := @Run_exit
theorem jT : type_of% @Run_tailV := @Run_tailV
theorem aa {a b : Prop} (h : a) (hb : b) : a ∧ b := ⟨h, hb⟩
theorem KS0 : type_of% (aa (aa (aa (aa (@arrT.eq_1) (aa (@noB.eq_1) (@noB.eq_2))) (aa (@oIs.eq_1) (aa (@oIs.eq_2) (@oLo.eq_1)))) (aa (aa (@oLo.eq_2) (aa (@oHi.eq_1) (@oHi.eq_2))) (aa (@Int.toNat_zero) (aa (@Int.toNat_natCast_add_one) (@Option.isSome_some.{0}))))) (aa (aa (aa (@Option.isSome_none.{0}) (aa (@eq_self.{1}) (@eg.eq_1))) (aa (@eg.eq_2) (aa (@et.eq_1) (@et.eq_2)))) (aa (aa (@et.eq_3) (aa (@ep.eq_1) (@ep.eq_2))) (aa (@ep.eq_3) (aa (@ep.eq_4) (@prune.eq_1)))))) := aa (aa (aa (aa (@arrT.eq_1) (aa (@noB.eq_1) (@noB.eq_2))) (aa (@oIs.eq_1) (aa (@oIs.eq_2) (@oLo.eq_1)))) (aa (aa (@oLo.eq_2) (aa (@oHi.eq_1) (@oHi.eq_2))) (aa (@Int.toNat_zero) (aa (@Int.toNat_natCast_add_one) (@Option.isSome_some.{0}))))) (aa (aa (aa (@Option.isSome_none.{0}) (aa (@eq_self.{1}) (@eg.eq_1))) (aa (@eg.eq_2) (aa (@et.eq_1) (@et.eq_2)))) (aa (aa (@et.eq_3) (aa (@ep.eq_1) (@ep.eq_2))) (aa (@ep.eq_3) (aa (@ep.eq_4) (@prune.eq_1)))))
theorem KS1 : type_of% (aa (aa (aa (aa (@prune.eq_2) (aa (@prune.eq_3) (@has.eq_1))) (aa (@has.eq_2) (aa (@less.eq_1) (@less.eq_2)))) (aa (aa (@strike.eq_1) (aa (@strike.eq_2) (@strike.eq_3))) (aa (@List.nil_append.{0}) (aa (@List.cons_append.{0}) (@List.append_nil.{0}))))) (aa (aa (aa (@SubB.eq_1) (aa (@SubB.eq_2) (@SubB.eq_3))) (aa (@eqI.eq_1) (aa (@eqI.eq_2) (@eqI.eq_3)))) (aa (aa (@allI.eq_1) (aa (@allI.eq_2) (@sNil.eq_1))) (aa (@sNil.eq_2) (aa (@gEff.eq_1) (@gEff.eq_2)))))) := aa (aa (aa (aa (@prune.eq_2) (aa (@prune.eq_3) (@has.eq_1))) (aa (@has.eq_2) (aa (@less.eq_1) (@less.eq_2)))) (aa (aa (@strike.eq_1) (aa (@strike.eq_2) (@strike.eq_3))) (aa (@List.nil_append.{0}) (aa (@List.cons_append.{0}) (@List.append_nil.{0}))))) (aa (aa (aa (@SubB.eq_1) (aa (@SubB.eq_2) (@SubB.eq_3))) (aa (@eqI.eq_1) (aa (@eqI.eq_2) (@eqI.eq_3)))) (aa (aa (@allI.eq_1) (aa (@allI.eq_2) (@sNil.eq_1))) (aa (@sNil.eq_2) (aa (@gEff.eq_1) (@gEff.eq_2)))))
theorem KS2 : type_of% (aa (aa (aa (aa (@gEff.eq_3) (aa (@qg.eq_1) (@qg.eq_2))) (aa (@qop.eq_1) (aa (@qop.eq_2) (@qop.eq_3)))) (aa (aa (@qop.eq_4) (aa (@qop.eq_5) (@qop.eq_6))) (aa (@qop.eq_7) (aa (@qop.eq_8) (@qop.eq_9))))) (aa (aa (aa (@qop.eq_10) (aa (@qop.eq_11) (@qop.eq_12))) (aa (@qop.eq_13) (aa (@qop.eq_14) (@qop.eq_15)))) (aa (aa (@qop.eq_16) (aa (@qop.eq_17) (@qop.eq_18))) (aa (@qop.eq_19) (aa (@qop.eq_20) (@qop.eq_21)))))) := aa (aa (aa (aa (@gEff.eq_3) (aa (@qg.eq_1) (@qg.eq_2))) (aa (@qop.eq_1) (aa (@qop.eq_2) (@qop.eq_3)))) (aa (aa (@qop.eq_4) (aa (@qop.eq_5) (@qop.eq_6))) (aa (@qop.eq_7) (aa (@qop.eq_8) (@qop.eq_9))))) (aa (aa (aa (@qop.eq_10) (aa (@qop.eq_11) (@qop.eq_12))) (aa (@qop.eq_13) (aa (@qop.eq_14) (@qop.eq_15)))) (aa (aa (@qop.eq_16) (aa (@qop.eq_17) (@qop.eq_18))) (aa (@qop.eq_19) (aa (@qop.eq_20) (@qop.eq_21)))))
theorem KS3 : type_of% (aa (aa (aa (aa (@qarr.eq_1) (aa (@qarr.eq_2) (@qcall.eq_1))) (aa (@qcall.eq_2) (aa (@qcall.eq_3) (@qcall.eq_4)))) (aa (aa (@qcall.eq_5) (aa (@qcall.eq_6) (@qcall.eq_7))) (aa (@qcall.eq_8) (aa (@argL.eq_1) (@argL.eq_2))))) (aa (aa (aa (@rho.eq_1) (aa (@rho.eq_2) (@rho.eq_3))) (aa (@rho.eq_4) (aa (@lkG.eq_1) (@lkG.eq_2)))) (aa (aa (@lk.eq_1) (aa (@lk.eq_2) (@lk.eq_3))) (aa (@gchain.eq_1) (aa (@gchain.eq_2) (@gchain.eq_3)))))) := aa (aa (aa (aa (@qarr.eq_1) (aa (@qarr.eq_2) (@qcall.eq_1))) (aa (@qcall.eq_2) (aa (@qcall.eq_3) (@qcall.eq_4)))) (aa (aa (@qcall.eq_5) (aa (@qcall.eq_6) (@qcall.eq_7))) (aa (@qcall.eq_8) (aa (@argL.eq_1) (@argL.eq_2))))) (aa (aa (aa (@rho.eq_1) (aa (@rho.eq_2) (@rho.eq_3))) (aa (@rho.eq_4) (aa (@lkG.eq_1) (@lkG.eq_2)))) (aa (aa (@lk.eq_1) (aa (@lk.eq_2) (@lk.eq_3))) (aa (@gchain.eq_1) (aa (@gchain.eq_2) (@gchain.eq_3)))))
theorem KS4 : type_of% (aa (aa (aa (aa (@gimp.eq_1) (aa (@gimp.eq_2) (@pk.eq_1))) (aa (@pk.eq_2) (aa (@ibin.eq_1) (@ibin.eq_2)))) (aa (aa (@ibin.eq_3) (aa (@ibin.eq_4) (@ibin.eq_5))) (aa (@ibin.eq_6) (aa (@ibin.eq_7) (@ibin.eq_8))))) (aa (aa (aa (@ibin.eq_9) (aa (@ibin.eq_10) (@ibin.eq_11))) (aa (@ibin.eq_12) (aa (@ibin.eq_13) (@ibin.eq_14)))) (aa (aa (@ibin.eq_15) (aa (@ibinOk.eq_1) (@ibinOk.eq_2))) (aa (@ibinOk.eq_3) (aa (@ibinOk.eq_4) (@ibinOk.eq_5)))))) := aa (aa (aa (aa (@gimp.eq_1) (aa (@gimp.eq_2) (@pk.eq_1))) (aa (@pk.eq_2) (aa (@ibin.eq_1) (@ibin.eq_2)))) (aa (aa (@ibin.eq_3) (aa (@ibin.eq_4) (@ibin.eq_5))) (aa (@ibin.eq_6) (aa (@ibin.eq_7) (@ibin.eq_8))))) (aa (aa (aa (@ibin.eq_9) (aa (@ibin.eq_10) (@ibin.eq_11))) (aa (@ibin.eq_12) (aa (@ibin.eq_13) (@ibin.eq_14)))) (aa (aa (@ibin.eq_15) (aa (@ibinOk.eq_1) (@ibinOk.eq_2))) (aa (@ibinOk.eq_3) (aa (@ibinOk.eq_4) (@ibinOk.eq_5)))))
theorem KS5 : type_of% (aa (aa (aa (aa (@ibinOk.eq_6) (aa (@ibinOk.eq_7) (@ibinOk.eq_8))) (aa (@ibinOk.eq_9) (aa (@ibinOk.eq_10) (@ibinOk.eq_11)))) (aa (aa (@ibinOk.eq_12) (aa (@ibinOk.eq_13) (@ibinOk.eq_14))) (aa (@ibinOk.eq_15) (aa (@oneCell.eq_1) (@manyCell.eq_1))))) (aa (aa (aa (@fnd.eq_1) (aa (@fnd.eq_2) (@memN.eq_1))) (aa (@memN.eq_2) (aa (@hasN.eq_1) (@hasN.eq_2)))) (aa (aa (@slLen_mk) (aa (@slCap_mk) (@slAt_mk))) (aa (@ptOf_mk) (aa (@bOf_mk) (@iOf_mk)))))) := aa (aa (aa (aa (@ibinOk.eq_6) (aa (@ibinOk.eq_7) (@ibinOk.eq_8))) (aa (@ibinOk.eq_9) (aa (@ibinOk.eq_10) (@ibinOk.eq_11)))) (aa (aa (@ibinOk.eq_12) (aa (@ibinOk.eq_13) (@ibinOk.eq_14))) (aa (@ibinOk.eq_15) (aa (@oneCell.eq_1) (@manyCell.eq_1))))) (aa (aa (aa (@fnd.eq_1) (aa (@fnd.eq_2) (@memN.eq_1))) (aa (@memN.eq_2) (aa (@hasN.eq_1) (@hasN.eq_2)))) (aa (aa (@slLen_mk) (aa (@slCap_mk) (@slAt_mk))) (aa (@ptOf_mk) (aa (@bOf_mk) (@iOf_mk)))))
theorem KS6 : type_of% (aa (aa (aa (aa (@agOf_mk) (aa (@tpOf_mk) (@IsS_mk))) (aa (@IsS_nil) (aa (@IsP_mk) (@IsI_mk)))) (aa (aa (@IsB_mk) (aa (@IsA_mk) (@IsT_mk))) (aa (@List.getElem?_cons_zero.{0}) (aa (@List.getElem?_cons_succ.{0}) (@List.map_cons.{0,0}))))) (aa (aa (aa (@List.map_nil.{0,0}) (aa (@List.getD_cons_zero.{0}) (@List.getD_cons_succ.{0}))) (aa (@List.length_cons.{0}) (aa (@List.length_nil.{0}) (@Option.isNone_none.{0})))) (aa (aa (@Option.isNone_some.{0}) (aa (@Bool.false_eq_true) (@true_and))) (aa (@and_true) (aa (@and_false) (@ne_eq.{1})))))) := aa (aa (aa (aa (@agOf_mk) (aa (@tpOf_mk) (@IsS_mk))) (aa (@IsS_nil) (aa (@IsP_mk) (@IsI_mk)))) (aa (aa (@IsB_mk) (aa (@IsA_mk) (@IsT_mk))) (aa (@List.getElem?_cons_zero.{0}) (aa (@List.getElem?_cons_succ.{0}) (@List.map_cons.{0,0}))))) (aa (aa (aa (@List.map_nil.{0,0}) (aa (@List.getD_cons_zero.{0}) (@List.getD_cons_succ.{0}))) (aa (@List.length_cons.{0}) (aa (@List.length_nil.{0}) (@Option.isNone_none.{0})))) (aa (aa (@Option.isNone_some.{0}) (aa (@Bool.false_eq_true) (@true_and))) (aa (@and_true) (aa (@and_false) (@ne_eq.{1})))))
theorem KS7 : type_of% (aa (aa (aa (aa (@not_false_eq_true) (aa (@Option.map_some.{0,0}) (@Option.map_none.{0,0}))) (aa (@List.getElem?_toArray.{0}) (aa (@add_zero) (@add_add)))) (aa (aa (@Nat.add_zero) (aa (@Nat.zero_add) (@Int.toNat_natCast))) (aa (@Nat.mul_one) (aa (@List.getElem?_nil.{0}) (@implies_true.{0}))))) (aa (aa (aa (@Go.Value.bool.injEq) (aa (@Bool.true_eq_false) (@false_and))) (aa (@or_false) (aa (@Bool.not_true) (@Bool.not_false)))) (aa (aa (@Bool.cond_true_left) (aa (@Bool.cond_false_right) (@Go.Value.cells.eq_1))) (aa (@Go.Value.cells.eq_2) (aa (@List.toList_toArray.{0}) (@List.map_toArray.{0,0})))))) := aa (aa (aa (aa (@not_false_eq_true) (aa (@Option.map_some.{0,0}) (@Option.map_none.{0,0}))) (aa (@List.getElem?_toArray.{0}) (aa (@add_zero) (@add_add)))) (aa (aa (@Nat.add_zero) (aa (@Nat.zero_add) (@Int.toNat_natCast))) (aa (@Nat.mul_one) (aa (@List.getElem?_nil.{0}) (@implies_true.{0}))))) (aa (aa (aa (@Go.Value.bool.injEq) (aa (@Bool.true_eq_false) (@false_and))) (aa (@or_false) (aa (@Bool.not_true) (@Bool.not_false)))) (aa (aa (@Bool.cond_true_left) (aa (@Bool.cond_false_right) (@Go.Value.cells.eq_1))) (aa (@Go.Value.cells.eq_2) (aa (@List.toList_toArray.{0}) (@List.map_toArray.{0,0})))))
theorem KS : type_of% (aa (aa (aa (KS0) (KS1)) (aa (KS2) (KS3))) (aa (aa (KS4) (KS5)) (aa (KS6) (KS7)))) := aa (aa (aa (KS0) (KS1)) (aa (KS2) (KS3))) (aa (aa (KS4) (KS5)) (aa (KS6) (KS7)))
def NormS (a b : List Td) : Prop := ∀ {P : Program} {r : Option Nat} {n : Nat} {ds : List DF} {L : FL} {w : World} {Q : Exit → List DF → FL → World → Prop}, Run P r n ds b L w Q → Run P r n ds a L w Q
section
variable {k : List Td} {x y : Code}
theorem nq : NormS (.code (.seq x y) :: k) (.code x :: .code y :: k) := Run_seq
theorem nk : NormS (.code .skip :: k) k := Run_skip
theorem nc : NormS (.code (.scope x) :: k) (.code x :: .sc :: k) := Run_scope
theorem nl {l : Nat} : NormS (.code (.label l) :: k) k := Run_label
theorem nb : NormS (.sc :: k) k := Run_sc
theorem no {id : Nat} : NormS (.code (.block id x) :: k) (.code x :: .blk id :: k) := Run_block
theorem ni {id : Nat} : NormS (.blk id :: k) k := Run_blk
theorem nx {id : Nat} {k' : List Td} (h : unw id k = some k') : NormS (.code (.exit id) :: k) k' := Run_exit h
end
theorem js {P : Program} {r : Option Nat} {n : Nat} {ds : List DF} {L : FL} {w : World} {Q : Exit → List DF → FL → World → Prop} {a b : List Td}
    (hr : Run P r n ds b L w Q) (h : NormS a b := by with_reducible first | apply nq | apply nk | apply nc | apply nl | apply nb | apply no | apply ni | apply nx rfl) : Run P r n ds a L w Q := h hr
theorem ja {a b : Prop} (hb : b) (h : a := by first | assumption | omega | (intros; omega)) : a ∧ b := ⟨h, hb⟩
theorem jy {A B : Prop} (b : B) (h : B → A := by
      intro hb
      with_reducible first | exact js hb | exact ja hb) : A := h b
def VsW (_ : List Nat) : Prop := True
def vsOf {l : List Nat} (_ : VsW l) : List Nat := l
theorem vsOf_eq {l : List Nat} (h : VsW l) : vsOf h = l := rfl
theorem Run_drawnQ {P : Program} {r : Option Nat} {n : Nat} {ds : List DF} {k : List Td} {L : FL} {w : World} {Q : Exit → List DF → FL → World → Prop} {id : Nat} {l : List Oper} {ids vs : List Nat} (hi : VsW ids) (hv : VsW vs) (hm : P.follows .mixedOrders = true) (hid : List.elem id (vsOf hi) = true) (hB : Region.lexB .any l.toArray = true) (hs : stat n l l [] = true)
    (h : ∀ t0, qg P (Ext w) l w t0 l [] L fun L' => ∀ w', Ext w w' → Run P r n ds k (prune (vsOf hv) L') w' Q) : Run P r n ds (.code (.region id l.toArray true) :: k) L w Q := Run_drawnV (vsOf hv) hm hB hs h
theorem KT : type_of% (aa (@List.take_succ_cons.{0}) (aa (@List.take_zero.{0}) (aa (@List.drop_succ_cons.{0}) (@List.drop_zero.{0})))) := aa (@List.take_succ_cons.{0}) (aa (@List.take_zero.{0}) (aa (@List.drop_succ_cons.{0}) (@List.drop_zero.{0})))
theorem KX : type_of% (aa pk_true (aa pk_false (aa (@false_or) (aa (@or_false) (aa (@false_imp_iff) (aa (@true_imp_iff) (aa @not_true_eq_false (aa @not_false_eq_true (aa @Bool.true_or (aa @Bool.false_or (aa @Bool.or_true (aa @Bool.or_false (aa @Bool.true_and (aa @Bool.false_and (aa @Bool.and_true @Bool.and_false))))))))))))))) :=
  aa pk_true (aa pk_false (aa (@false_or) (aa (@or_false) (aa (@false_imp_iff) (aa (@true_imp_iff) (aa @not_true_eq_false (aa @not_false_eq_true (aa @Bool.true_or (aa @Bool.false_or (aa @Bool.or_true (aa @Bool.or_false (aa @Bool.true_and (aa @Bool.false_and (aa @Bool.and_true @Bool.and_false))))))))))))))
theorem jW {P : Program} (hm : P.follows .mixedOrders = true) (vs ids : List Nat) {Φ : Prop} (F : Φ) {H : Prop} {G : (Nat → Value) → Prop} (h : ∀ t0, G t0)
    (hs : VsW vs → VsW ids → P.follows .mixedOrders = true → Φ → (∀ t0, G t0) → (Nat → Value) → H := by
      intro hv hi hm hF hG t0
      first
        | (refine Run_regionV (vsOf hv) (by kernel_rfl) fun t1 => ?_
           simp only [KS, Nat.reduceAdd, Nat.reduceMul, Nat.reduceEqDiff, ↓reduceIte, forall_const, Int.cast_ofNat_Int, Int.reduceToNat, vsOf_eq, hF]
           (try simp (disch := omega) only [wrapI, tmodI, tdivI])
           (fail_if_success (with_reducible show False))
           exact hG t1)
        | (refine Run_drawnQ hi hv hm (by rw [vsOf_eq]; decide) (by kernel_rfl) (by kernel_rfl) fun t1 => ?_
           simp only [KS, Nat.reduceAdd, Nat.reduceMul, Nat.reduceEqDiff, ↓reduceIte, forall_const, Int.cast_ofNat_Int, Int.reduceToNat, vsOf_eq, hF]
           (try simp (disch := omega) only [wrapI, tmodI, tdivI])
           (fail_if_success (with_reducible show False))
           exact hG t1)
        | (simp only [KS, Nat.reduceAdd, Nat.reduceMul, Nat.reduceEqDiff, ↓reduceIte, forall_const, Int.cast_ofNat_Int, Int.reduceToNat, hF]
           (try simp (disch := omega) only [wrapI, tmodI, tdivI])
           (fail_if_success (with_reducible show False))
           exact hG t0)) : H := hs trivial trivial hm F h (fun _ => undef)
end Go.Fk
