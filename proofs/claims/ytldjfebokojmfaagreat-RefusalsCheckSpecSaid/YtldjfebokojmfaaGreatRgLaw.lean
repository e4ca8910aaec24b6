import Derived.Test.YtldjfebokojmfaaGreatRgFk
import Derived.ProofKit
import Derived.SizedLaws
set_option linter.unusedSimpArgs false
set_option linter.unusedVariables false
namespace Go.Fk
open Go Go.RowKit Go.ChangeShapes Go.WideShapes
structure Opn (α : Type) [Enc α] (P : Program) (t : TypeId) : Prop where
  cells : P.cellsOf t = Enc.n α
  bytes : 0 < P.bytesOf t
  op : ∀ {H : Type} (enc : TypeId × Value → H) (W : World) (fuel : Nat) (cs : List Value) (y : DataW H × List MemPlace),
    DataW.trod enc P W 0 (fun _ => true) true fuel t cs = some y → (y.1.weights P t).all (· ≤ reachBytes) = true → ∃ x : α, Enc.rep W cs x
section
variable {H : Type} {enc : TypeId × Value → H} {P : Program} {W : World}
theorem I64_of_wf {n : Int} (h : (Lit.int .i64 n).wf = true) : I64 n := by
  simp only [Lit.wf, Bool.and_eq_true, decide_eq_true_eq] at h
  have h1 : IntKind.i64.min = -9223372036854775808 := by decide
  have h2 : IntKind.i64.max = 9223372036854775807 := by decide
  rw [h1, h2] at h; exact h
theorem Opn.int {t : TypeId} (hu : P.underlying t = some (.int .i64)) (hc : P.cellsOf t = 1) (hb : 0 < P.bytesOf t) : Opn Int P t :=
  ⟨hc, hb, fun enc W fuel cs y h _ => by
    obtain ⟨n, rfl, rfl, hw⟩ := DataW.trod_int hu h
    exact ⟨n, rfl, I64_of_wf hw⟩⟩
theorem at_cells {a : Addr} {n : Nat} {cs : List Value} (h : W.cells? 0 a n = some cs) : At W a cs := fun j v hj => by
  obtain ⟨h1, h2, h3⟩ := World.cells?_some h
  have hlt := (List.getElem?_eq_some_iff.1 hj).1
  rw [← hj]
  have := h3 j (by omega)
  rw [this]
theorem Opn.slice {α : Type} [Enc α] {t e : TypeId} (ht : P.underlying t = some (.slice e)) (hc : P.cellsOf t = 1) (hb : 0 < P.bytesOf t) (hE : Opn α P e) : Opn (List α) P t :=
  ⟨hc, hb, fun {H} enc W fuel cs y h hw => by
    rcases DataW.trod_slice ht h with ⟨rfl, rfl⟩ | ⟨a, len, cap, elems, rest, n, rfl, rfl, rfl, h1, h2, h3, h4, h5, h6, h7⟩
    · exact ⟨[], _, rfl, Sl.nil W⟩
    · simp only [DataW.weights, ht, List.all_cons, List.all_append, Bool.and_eq_true, decide_eq_true_eq, List.length_map] at hw
      obtain ⟨hw1, hw2, hw3⟩ := hw
      have hlen : len ≤ 140737488355328 := by
        have : elems.length ≤ (elems.length + rest.length) * P.bytesOf e := by
          have := Nat.mul_le_mul (show elems.length ≤ elems.length + rest.length by omega) (show 1 ≤ P.bytesOf e from hE.bytes)
          omega
        have h8 := reachBytes_lt
        omega
      have hall : ∀ (l : List (DataW H)), (DataW.weightsAll P e l).all (· ≤ reachBytes) = true → ∀ d ∈ l, (d.weights P e).all (· ≤ reachBytes) = true := by
        intro l
        induction l with
        | nil => intro _ d hd; cases hd
        | cons x r ih =>
          intro hx d hd
          simp only [DataW.weightsAll, List.all_append, Bool.and_eq_true] at hx
          rcases List.mem_cons.1 hd with rfl | hd
          · exact hx.1
          · exact ih hx.2 d hd
      have each : ∀ i : Fin len, ∃ x : α, ∃ cs, Enc.rep W cs x ∧ At W (a.add (i * Enc.n α)) cs := by
        intro ⟨i, hi⟩
        have h8 := h5 i hi
        have hil : i < elems.length := by omega
        rw [List.getElem?_eq_getElem hil, Option.bind_eq_some_iff] at h8
        obtain ⟨cs, hcs, htr⟩ := h8
        obtain ⟨x, hx⟩ := hE.op enc W n cs _ htr (hall _ hw2 _ (List.mem_map.2 ⟨_, List.getElem_mem hil, rfl⟩))
        refine ⟨x, cs, hx, ?_⟩
        rw [hE.cells] at hcs
        exact at_cells hcs
      refine ⟨List.ofFn fun i => Classical.choose (each i), .slice (some a) len cap, rfl, by simp, by simp, by simpa using h2, by simpa using hlen, by simpa [maxLen] using h3, fun i hi => ?_⟩
      simp only [List.length_ofFn] at hi
      obtain ⟨cs, hx, hat⟩ := Classical.choose_spec (each ⟨i, hi⟩)
      exact ⟨cs, by simpa using hx, by simpa using hat⟩⟩
theorem opn_fields {t : TypeId} {fs : Array Field} (ht : P.underlying t = some (.struct fs)) {fuel : Nat} {cs : List Value} {y : DataW H × List MemPlace} (h : DataW.trod enc P W 0 (fun _ => true) true fuel t cs = some y)
    (hw : (y.1.weights P t).all (· ≤ reachBytes) = true) : cs.length = P.cellsOf t ∧ ∃ n, ∀ (i : Nat) (f : Field), fs[i]? = some f →
      ∃ z, DataW.trod enc P W 0 (fun _ => true) true n f.type ((cs.drop f.offset).take (P.cellsOf f.type)) = some z ∧ (z.1.weights P f.type).all (· ≤ reachBytes) = true := by
  obtain ⟨xs, n, rfl, rfl, hl, hx, hf⟩ := DataW.trod_struct ht h
  refine ⟨hl, n, fun i f hi => ?_⟩
  have hlt : i < xs.length := by have := (Array.getElem?_eq_some_iff.1 hi).1; omega
  refine ⟨xs[i], (hf i f hi).trans (List.getElem?_eq_getElem hlt), ?_⟩
  simp only [DataW.weights, ht] at hw
  have key : ∀ (l : List Field) (zs : List (DataW H × List MemPlace)) (i : Nat) (f : Field) (h : i < zs.length), l[i]? = some f → (DataW.weightsEach P (l.map (·.type)) (zs.map (·.1))).all (· ≤ reachBytes) = true → (zs[i].1.weights P f.type).all (· ≤ reachBytes) = true := by
    intro l
    induction l with
    | nil => intro zs i f _ hi; simp at hi
    | cons g l ih =>
      intro zs i f hz hi hw
      cases zs with
      | nil => simp at hz
      | cons z zs =>
        simp only [List.map_cons, DataW.weightsEach, List.all_append, Bool.and_eq_true] at hw
        cases i with
        | zero => simp at hi; subst hi; exact hw.1
        | succ i => exact ih zs i f (by simpa using hz) (by simpa using hi) hw.2
  exact key fs.toList xs i f hlt (by simpa using hi) hw
theorem trodAll_weights {t : TypeId} {ts : List TypeId} {d : DataW H} {ds : List (DataW H)} (h : (DataW.weightsEach P (t :: ts) (d :: ds)).all (· ≤ reachBytes) = true) :
    (d.weights P t).all (· ≤ reachBytes) = true ∧ (DataW.weightsEach P ts ds).all (· ≤ reachBytes) = true := by
  simpa only [DataW.weightsEach, List.all_append, Bool.and_eq_true] using h
theorem arg_int {t : TypeId} {k : IntKind} {v : Value} {d : DataW H} {ps : List MemPlace} {sp : Nat → Bool} (hu : P.underlying t = some (.int k)) (hval : Value.okWide P W .any 0 t v) (h : DataW.Trod enc P W 0 sp true t v d ps) :
    ∃ n, v = .int k n ∧ k.min ≤ n ∧ n ≤ k.max := by
  obtain ⟨n, rfl, _, _, hw⟩ := open_int hu hval h
  simp only [Lit.wf, Bool.and_eq_true, decide_eq_true_eq] at hw
  exact ⟨n, rfl, hw⟩
theorem arg_slice {α : Type} [Enc α] {t e : TypeId} {v : Value} {d : DataW H} {ps : List MemPlace} (ht : P.underlying t = some (.slice e)) (hE : Opn (List α) P t) (hval : Value.okWide P W .any 0 t v) (h : DataW.Trod enc P W 0 (fun _ => true) true t v d ps)
    (hw : (d.weights P t).all (· ≤ reachBytes) = true) : ∃ xs : List α, Sl W v xs := by
  obtain ⟨a, len, cap, rfl⟩ := okWide_slice ht hval
  obtain ⟨fuel, hf⟩ := h
  obtain ⟨xs, v', hv, hs⟩ := hE.op enc W fuel _ _ hf hw
  simp [Value.cells] at hv
  subst hv
  exact ⟨xs, hs⟩
theorem arg_struct {α : Type} [Enc α] {t : TypeId} {fs : Array Field} {v : Value} {d : DataW H} {ps : List MemPlace} (ht : P.underlying t = some (.struct fs)) (hE : Opn α P t) (hval : Value.okWide P W .any 0 t v) (h : DataW.Trod enc P W 0 (fun _ => true) true t v d ps)
    (hw : (d.weights P t).all (· ≤ reachBytes) = true) : ∃ (cs : List Value) (x : α), v = .agg cs.toArray ∧ Enc.rep W cs x := by
  obtain ⟨cs, rfl, _⟩ := okWide_struct ht hval
  obtain ⟨fuel, hf⟩ := h
  obtain ⟨x, hx⟩ := hE.op enc W fuel _ _ hf hw
  exact ⟨cs.toList, x, by simp, by simpa [Value.cells] using hx⟩
theorem Ext.trodAll (hl : laidOutB P = true) {W' : World} (hx : Ext W W') : ∀ {ts : List TypeId} {vs : List Value} {ds : List (DataW H)} {ps : List MemPlace},
    (∀ t ∈ ts, P.readableRec t = true ∧ t < P.types.size) → DataW.TrodAll enc P W 0 (fun _ => true) true ts vs ds ps → (∀ p ∈ ps, p.block < W.heap.size) →
    ∀ sp : Nat → Bool, (∀ p ∈ ps, sp p.block = true) → DataW.TrodAll enc P W' 0 sp true ts vs ds ps
  | [], [], [], _, _, h, _, _, _ => h
  | t :: ts, v :: vs, d :: ds, ps, hr, h, hlt, sp, hsp => by
    obtain ⟨p, q, h1, h2, rfl⟩ := h
    obtain ⟨r1, r2⟩ := hr t (List.mem_cons_self ..)
    refine ⟨p, q, ?_, Ext.trodAll hl hx (fun t ht => hr t (List.mem_cons_of_mem _ ht)) h2 (fun x hx => hlt x (List.mem_append_right _ hx)) sp (fun x hx => hsp x (List.mem_append_right _ hx)), rfl⟩
    exact WideElems.Trod_stays hl r1 r2 h1 (fun x hx' => Below.same hx (hlt x (List.mem_append_left _ hx'))) (fun x hx' => hsp x (List.mem_append_left _ hx'))
theorem law_lifted {C : Checked} {os : Os} {f : FuncId} {fn : Func} {s : ChangeSpec} {tb : TypeId} (own : ownKnob C.prog.godebug = none) (started : os.Started) (noInit : C.prog.inits.idxOf? f = none) (hfn : C.prog.funcs[f]? = some fn) (hl : laidOutB C.prog = true)
    (hrr : fn.params.toList.all (fun t => C.prog.readableRec t && decide (t < C.prog.types.size)) = true) (hvars : s.vars = []) (hres : fn.resultTypes = #[tb]) (htb : C.prog.underlying tb = some .bool)
    (hspec : ∀ ds : List (DataW H), ds.length = fn.params.size → (s.fn H (ds ++ [])).results = [.lit (.bool true)] ∧ (s.fn H (ds ++ [])).args = ds ∧ (s.fn H (ds ++ [])).vars = [])
    (witness : ∃ (w : World) (tape : Tape) (i : Input), w.os = os ∧ (w.forCall tape i).Shaped C.prog ∧ i.vars = [] ∧ Input.okWide C.prog (w.forCall tape i) .any w.heap.size f i ∧
      s.pre6 enc C.prog fn [] false (w.forCall tape i).memory i.args ∧ ({} : Assume).holds C.prog (lone (Frame.enter C.prog f i.args .normal) [] (w.forCall tape i)))
    (contract : ∀ (W : World) (base : Nat) (args : Array Value) (ds : List (DataW H)) (ps : List MemPlace), (∀ (j : Nat) t v, fn.params[j]? = some t → args[j]? = some v → Value.okWide C.prog W .any base t v) →
      DataW.TrodAll enc C.prog W 0 (fun _ => true) true fn.params.toList args.toList ds ps → (DataW.weightsEach C.prog fn.params.toList ds).all (· ≤ reachBytes) = true →
      Calls C.prog f args W fun e w' => e = .returned (.bool true) ∧ Ext W w') :
    ReturnsInHanded {} C os f .any (s.pre6 enc C.prog fn [] false) (s.post enc C.prog fn false true false false) := by
  refine returnsInHanded_of_change_sized own started noInit hfn witness fun W base args ds gs before hval hW _ hwt _ => ?_
  have hlt := hW.lt
  have hW' := hW
  obtain ⟨p, q, hA, hV, hpq, hfz, hnd⟩ := hW
  rw [hvars] at hV
  have hg : gs = [] ∧ q = [] := by
    cases gs with
    | nil => exact ⟨rfl, hV⟩
    | cons g gs => exact hV.elim
  obtain ⟨rfl, rfl⟩ := hg
  have hvt : s.plain.varTypes C.prog = [] := by
    unfold DataSpec.varTypes ChangeSpec.plain
    simp [hvars]
  rw [hvt] at hwt
  simp only [List.append_nil] at hwt hpq
  subst hpq
  have hdl : ds.length = fn.params.size := by
    have : ∀ (ts : List TypeId) (vs : List Value) (ds : List (DataW H)) (ps : List MemPlace), DataW.TrodAll enc C.prog W 0 (fun _ => true) true ts vs ds ps → ds.length = ts.length := by
      intro ts
      induction ts with
      | nil => intro vs ds ps h; cases vs <;> cases ds <;> first | rfl | exact h.elim
      | cons t ts ih => intro vs ds ps h; cases vs <;> cases ds <;> first | exact h.elim | (obtain ⟨_, _, _, h2, _⟩ := h; simp [ih _ _ _ h2])
    simpa using this _ _ _ _ hA
  obtain ⟨s1, s2, s3⟩ := hspec ds hdl
  refine (contract W base args ds before hval hA hwt).mono fun e w' ⟨he, hx⟩ => ⟨_, he, ?_⟩
  have hr : ∀ t ∈ fn.params.toList, C.prog.readableRec t = true ∧ t < C.prog.types.size := fun t ht => by
    have := List.all_eq_true.1 hrr t ht
    simpa using this
  have hold : ∀ x ∈ before, (fun b => decide (b < W.heap.size)) x.block = true := fun x hx => by simpa using hlt x hx
  have hresT : ∀ (b : Nat) (sp : Nat → Bool) (hd : Bool), DataW.TrodAll enc C.prog w' b sp hd fn.resultTypes.toList ((Value.bool true).resultList fn.resultTypes.size) (s.fn H (ds ++ [])).results [] := fun b sp hd => by
    rw [s1, hres]
    exact ⟨[], [], shut_bool htb true, rfl, rfl⟩
  refine ⟨ds, [], before, [], before, [], hW', hresT _ _ _, ?_, ?_, Below.frame hx _, fun h => by cases h⟩
  · rw [s2]; exact Ext.trodAll hl hx hr hA hlt _ hold
  · rw [s3, hvars]; rfl
end
end Go.Fk
