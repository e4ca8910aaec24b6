/- Chapter 58: what the moves of bonds lead to, in plain Lean. No program in sight. -/
import Derived.Test.YtpkopdhdnnkemaaP58
namespace Go.Fk
open Go
namespace Bd
open Bk (lo paid)
/-- a move that may stand in a book, but for its number -/
def mv (m : MoveD) : Bool := Bk.mOk { m with No := 0 } 0
theorem mv_ok {m : MoveD} (h : mv m = true) (i : Int) : Bk.mOk { m with No := i } i = true := by
  simp only [mv, Bk.mOk, decide_eq_true_eq] at h ⊢
  exact ⟨trivial, h.2⟩
theorem ok_mv {m : MoveD} (h : mv m = true) : Bk.mOk m m.No = true := by
  simp only [mv, Bk.mOk, decide_eq_true_eq] at h ⊢
  exact ⟨trivial, h.2⟩
def ren : Nat → List MoveD → List MoveD
  | _, [] => []
  | i, m :: r => { m with No := (i : Int) } :: ren (i + 1) r
theorem ren_len : ∀ (l : List MoveD) (i : Nat), (ren i l).length = l.length
  | [], _ => rfl
  | m :: r, i => by simp [ren, ren_len r]
theorem ren_get : ∀ (l : List MoveD) (i k : Nat) (h : k < (ren i l).length) (h' : k < l.length), (ren i l)[k] = { l[k] with No := ((i + k : Nat) : Int) }
  | m :: r, i, 0, _, _ => rfl
  | m :: r, i, k + 1, h, h' => by
    simp only [ren, List.getElem_cons_succ]
    rw [ren_get r (i + 1) k (by rw [ren_len]; simpa using h') (by simpa using h')]
    rw [show i + 1 + k = i + (k + 1) by omega]
theorem ren_ok : ∀ (l : List MoveD) (i : Nat), (∀ m ∈ l, mv m = true) → Bk.allOk i (ren i l) = true
  | [], _, _ => rfl
  | m :: r, i, h => by
    simp only [ren, Bk.allOk, Bool.and_eq_true]
    exact ⟨mv_ok (h m (by simp)) i, by have := ren_ok r (i + 1) fun m hm => h m (by simp [hm]); simpa using this⟩
theorem ren_after : ∀ (l : List MoveD) (i : Nat) (b : List Int), Bk.after b (ren i l) = Bk.after b l
  | [], _, _ => rfl
  | m :: r, i, b => by show Bk.after (Bk.step b { m with No := (i : Int) }) (ren (i + 1) r) = Bk.after (Bk.step b m) r; rw [ren_after r]; rfl
theorem ren_bad : ∀ (l : List MoveD) (i j : Nat) (b : List Int), Bk.bad b j (ren i l) = Bk.bad b j l
  | [], _, _, _ => rfl
  | m :: r, i, j, b => by
    simp only [ren, Bk.bad]
    rw [ren_bad r]; rfl
/-- the first k numbers are set -/
def renTo (k : Nat) (l : List MoveD) : List MoveD := l.mapIdx fun j m => if j < k then { m with No := (j : Int) } else m
theorem renTo_len (k : Nat) (l : List MoveD) : (renTo k l).length = l.length := by simp [renTo]
theorem renTo_zero (l : List MoveD) : renTo 0 l = l := by
  apply List.ext_getElem (renTo_len _ _)
  intro i h1 h2
  simp [renTo]
theorem renTo_get {k : Nat} {l : List MoveD} (h : k < l.length) : (renTo k l)[k]'(by rw [renTo_len]; exact h) = l[k] := by simp [renTo]
theorem renTo_set {k : Nat} {l : List MoveD} (h : k < l.length) : (renTo k l).set k { l[k] with No := (k : Int) } = renTo (k + 1) l := by
  apply List.ext_getElem (by simp [renTo_len])
  intro i h1 h2
  rw [List.getElem_set]
  by_cases e : k = i
  · subst e; simp [renTo]
  · rw [if_neg e]
    simp only [renTo, List.getElem_mapIdx]
    by_cases h3 : i < k
    · rw [if_pos h3, if_pos (by omega)]
    · rw [if_neg h3, if_neg (by omega)]
theorem renTo_full (l : List MoveD) : renTo l.length l = ren 0 l := by
  apply List.ext_getElem (by simp [renTo_len, ren_len])
  intro i h1 h2
  rw [renTo_len] at h1
  rw [ren_get _ _ _ _ h1]
  simp [renTo, h1]

theorem after_snoc (b : List Int) (l : List MoveD) (m : MoveD) : Bk.after b (l ++ [m]) = Bk.step (Bk.after b l) m := by simp [Bk.after]
theorem bad_snoc : ∀ (l : List MoveD) (b : List Int) (i : Nat) (m : MoveD), Bk.bad b i l = none → paid (Bk.step (Bk.after b l) m) m = true → Bk.bad b i (l ++ [m]) = none
  | [], b, i, m, _, hp => by
    simp only [List.nil_append, Bk.bad]
    simp only [Bk.after, List.foldl_nil] at hp
    rw [if_pos hp]
  | x :: r, b, i, m, h, hp => by
    simp only [List.cons_append, Bk.bad] at h ⊢
    by_cases hx : paid (Bk.step b x) x = true
    · rw [if_pos hx] at h ⊢
      exact bad_snoc r (Bk.step b x) (i + 1) m h hp
    · rw [if_neg hx] at h; cases h

def zs : List Int := List.replicate 115 0
theorem zs_len : zs.length = 115 := by simp [zs]
theorem zs_start : Bk.startOk zs = true := by decide +kernel
theorem zs_lo (k : Int) : lo zs k = 0 := by
  unfold lo zs
  rw [List.getD_eq_getElem?_getD, List.getElem?_replicate]
  split <;> rfl
/-- what each account has -/
def tgt (left got : List Int) (bank k : Int) : Int := if k = 0 then bank else if k < 27 then 0 else if k < 51 then lo left (k - 27) else lo got (k - 51)
structure St (ms : List MoveD) (left got : List Int) (bank : Int) : Prop where
  mv : ∀ m ∈ ms, mv m = true
  ll : left.length = 24
  gl : got.length = 64
  bal : ∀ k : Int, 0 ≤ k → k < 115 → lo (Bk.after zs ms) k = tgt left got bank k
  bad : Bk.bad zs 0 ms = none
theorem after_len (ms : List MoveD) : (Bk.after zs ms).length = 115 := by rw [Bk.after_len, zs_len]
theorem St.snoc {ms : List MoveD} {left got left' got' : List Int} {bank bank' : Int} {m : MoveD} (h : St ms left got bank) (hm : Bd.mv m = true) (h1 : left'.length = 24) (h2 : got'.length = 64)
    (hb : ∀ k : Int, 0 ≤ k → k < 115 → tgt left' got' bank' k = tgt left got bank k - (if m.From = k then m.Amount else 0) + (if m.To = k then m.Amount else 0))
    (hp : m.From = 0 ∨ m.Amount ≤ tgt left got bank m.From) : St (ms ++ [m]) left' got' bank' := by
  have hok := ok_mv hm
  have hr : 0 ≤ m.From ∧ m.From ≤ 114 ∧ m.From ≠ m.To := by
    simp only [Bd.mv, Bk.mOk, decide_eq_true_eq] at hm; omega
  refine ⟨fun x hx => ?_, h1, h2, fun k h0 h3 => ?_, bad_snoc _ _ _ _ h.bad ?_⟩
  · rcases List.mem_append.1 hx with hx | hx
    · exact h.mv x hx
    · rw [List.mem_singleton.1 hx]; exact hm
  · rw [after_snoc, Bk.lo_step (after_len ms) hok h0, h.bal k h0 h3, hb k h0 h3]
  · unfold Bk.paid
    rcases hp with hp | hp
    · simp [hp]
    · simp only [Bool.or_eq_true, decide_eq_true_eq]
      right
      rw [Bk.lo_step (after_len ms) hok hr.1, h.bal _ hr.1 (by omega), if_pos rfl, if_neg (by omega)]
      omega
/-- all moves but one's number -/
theorem mv_numb (i : Nat) (m : MoveD) (h : Bd.mv { m with Run := -1 } = true) : Bd.mv (numb i m) = true := by
  simp only [Bd.mv, numb, Bk.mOk, decide_eq_true_eq] at h ⊢; exact h
theorem mv_dep {a : Int} {i : Nat} (x : Int) (h : am a = true) (hi : i < 24) : Bd.mv (numb i (depM a i x)) = true := by
  simp only [am, decide_eq_true_eq] at h
  simp [Bd.mv, numb, depM, Bk.mOk]; omega
theorem mv_free {a : Int} {i : Nat} (h : am a = true) (hi : i < 24) : Bd.mv (numb i (freeM i a)) = true := by
  simp only [am, decide_eq_true_eq] at h
  simp [Bd.mv, numb, freeM, Bk.mOk]; omega
theorem mv_pay {a o s : Int} (h : am a = true) (ho : 0 ≤ o ∧ o < 24) (hs : 0 ≤ s ∧ s < 64) : Bd.mv (numb 0 (payM o s 0 a)) = true := by
  simp only [am, decide_eq_true_eq] at h
  simp [Bd.mv, numb, payM, Bk.mOk]; omega
/-! the three phases -/
def leftOf (n : Nat) (a : Int) : List Int := (List.range 24).map fun i => if i < n then a else 0
theorem leftOf_len (n : Nat) (a : Int) : (leftOf n a).length = 24 := by simp [leftOf]
theorem leftOf_get {n : Nat} {a : Int} {i : Nat} (h : i < (leftOf n a).length) : (leftOf n a)[i] = if i < n then a else 0 := by simp [leftOf]
theorem leftOf_set {n : Nat} {a : Int} : (leftOf n a).set n a = leftOf (n + 1) a := by
  apply List.ext_getElem (by simp [leftOf_len])
  intro i h1 h2
  rw [List.getElem_set, leftOf_get, leftOf_get]
  by_cases e : n = i
  · subst e; simp
  · rw [if_neg e]
    by_cases h3 : i < n
    · rw [if_pos h3, if_pos (by omega)]
    · rw [if_neg h3, if_neg (by omega)]
theorem lo_get {b : List Int} {k : Nat} (h : k < b.length) : b[k] = lo b k := by simp [Bk.lo, List.getD_eq_getElem?_getD, h]
theorem mk_snoc (F : Int → Int → MoveD) (xs : List Int) (x : Int) : mk F (xs ++ [x]) = mk F xs ++ [numb xs.length (F xs.length x)] := by
  have h : xs.length < (xs ++ [x]).length := by simp
  have := mk_take (F := F) h
  rw [List.take_of_length_le (by rw [mk_len]; simp)] at this
  rw [this]
  congr 1
  · apply List.ext_getElem (by simp [mk_len])
    intro i h1 h2
    rw [mk_len] at h2
    rw [List.getElem_take, mk_get _ (by simp; omega), mk_get _ h2, List.getElem_append_left h2]
  · simp
theorem st_dep {a : Int} (ha : am a = true) : ∀ n : Nat, n ≤ 24 → St (mk (depM a) (List.replicate n 0)) (leftOf n a) (List.replicate 64 0) (-(n * a))
  | 0, _ => by
    refine ⟨by simp [mk], leftOf_len _ _, by simp, fun k h0 h1 => ?_, rfl⟩
    have e : Bk.after zs (mk (depM a) (List.replicate 0 0)) = zs := rfl
    rw [e, zs_lo]
    unfold tgt
    have h2 : ∀ k : Int, lo (leftOf 0 a) k = 0 := fun k => by
      unfold lo
      rw [List.getD_eq_getElem?_getD]
      cases hq : (leftOf 0 a)[k.toNat]? with
      | none => rfl
      | some x =>
        obtain ⟨h3, h4⟩ := List.getElem?_eq_some_iff.1 hq
        rw [leftOf_get] at h4
        simp at h4
        simp [h4]
    have h3 : ∀ k : Int, lo (List.replicate 64 0) k = 0 := fun k => by
      unfold lo
      rw [List.getD_eq_getElem?_getD, List.getElem?_replicate]
      split <;> rfl
    rw [h2, h3]; simp
  | n + 1, hn => by
    have ih := st_dep ha n (by omega)
    rw [show List.replicate (n + 1) (0 : Int) = List.replicate n 0 ++ [0] by rw [List.replicate_succ']]
    rw [mk_snoc, List.length_replicate]
    have hm := mv_dep (a := a) (i := n) 0 ha (by omega)
    refine ih.snoc hm (leftOf_len _ _) (by simp) (fun k h0 h1 => ?_) (.inl rfl)
    show tgt _ _ _ k = tgt _ _ _ k - (if (0 : Int) = k then a else 0) + (if (27 + (n : Int)) = k then a else 0)
    rw [← leftOf_set]
    unfold tgt
    have e : -(((n + 1 : Nat) : Int) * a) = -(n * a) - a := by push_cast; rw [Int.add_mul]; omega
    rw [e]
    by_cases hk0 : k = 0
    · subst hk0; simp; omega
    rw [if_neg hk0, if_neg hk0, if_neg (show ¬ (0 : Int) = k by omega)]
    by_cases hk1 : k < 27
    · rw [if_pos hk1, if_pos hk1, if_neg (show ¬ (27 + (n : Int)) = k by omega)]; rfl
    rw [if_neg hk1, if_neg hk1]
    by_cases hk2 : k < 51
    · rw [if_pos hk2, if_pos hk2, Bk.lo_set (by omega) (by rw [leftOf_len]; omega)]
      by_cases e : k - 27 = n
      · rw [if_pos e, if_pos (by omega), e]
        rw [← lo_get (by rw [leftOf_len]; omega), leftOf_get]; simp
      · rw [if_neg e, if_neg (by omega)]; omega
    · rw [if_neg hk2, if_neg hk2, if_neg (show ¬ (27 + (n : Int)) = k by omega)]; omega
theorem St.pay {ms : List MoveD} {left got : List Int} {bank now : Int} {o s : Nat} (h : St ms left got bank) (hn : am now = true) (ho : o < 24) (hs : s < 64) (hle : now ≤ lo left o) :
    St (ms ++ [numb 0 (payM o s 0 now)]) (left.set o (lo left o - now)) (got.set s (lo got s + now)) bank := by
  refine h.snoc (mv_pay hn (by omega) (by omega)) (by simpa using h.ll) (by simpa using h.gl) (fun k h0 h1 => ?_) (.inr ?_)
  · show tgt _ _ _ k = tgt _ _ _ k - (if (27 + (o : Int)) = k then now else 0) + (if (51 + (s : Int)) = k then now else 0)
    unfold tgt
    by_cases hk0 : k = 0
    · subst hk0; rw [if_pos rfl, if_pos rfl, if_neg (by omega), if_neg (by omega)]; omega
    rw [if_neg hk0, if_neg hk0]
    by_cases hk1 : k < 27
    · rw [if_pos hk1, if_pos hk1, if_neg (by omega), if_neg (by omega)]; rfl
    rw [if_neg hk1, if_neg hk1]
    by_cases hk2 : k < 51
    · rw [if_pos hk2, if_pos hk2, Bk.lo_set (by omega) (by rw [h.ll]; omega), if_neg (show ¬ (51 + (s : Int)) = k by omega)]
      by_cases e : k - 27 = o
      · rw [if_pos e, if_pos (by omega), e]; omega
      · rw [if_neg e, if_neg (by omega)]; omega
    · rw [if_neg hk2, if_neg hk2, Bk.lo_set (by omega) (by rw [h.gl]; omega), if_neg (show ¬ (27 + (o : Int)) = k by omega)]
      by_cases e : k - 51 = s
      · rw [if_pos e, if_pos (by omega), e]; omega
      · rw [if_neg e, if_neg (by omega)]; omega
  · show now ≤ tgt left got bank (27 + o)
    unfold tgt
    rw [if_neg (by omega), if_neg (by omega), if_pos (by omega), show (27 : Int) + o - 27 = o by omega]
    exact hle
theorem St.free {ms : List MoveD} {left got : List Int} {bank : Int} {i : Nat} (h : St ms left got bank) (hi : i < 24) (hn : am (lo left i) = true) :
    St (ms ++ [numb i (freeM i (lo left i))]) (left.set i 0) got (bank + lo left i) := by
  refine h.snoc (mv_free hn hi) (by simpa using h.ll) h.gl (fun k h0 h1 => ?_) (.inr ?_)
  · show tgt _ _ _ k = tgt _ _ _ k - (if (27 + (i : Int)) = k then lo left i else 0) + (if (0 : Int) = k then lo left i else 0)
    unfold tgt
    by_cases hk0 : k = 0
    · subst hk0; rw [if_pos rfl, if_pos rfl, if_neg (by omega), if_pos rfl]; omega
    rw [if_neg hk0, if_neg hk0, if_neg (show ¬ (0 : Int) = k by omega)]
    by_cases hk1 : k < 27
    · rw [if_pos hk1, if_pos hk1, if_neg (by omega)]; rfl
    rw [if_neg hk1, if_neg hk1]
    by_cases hk2 : k < 51
    · rw [if_pos hk2, if_pos hk2, Bk.lo_set (by omega) (by rw [h.ll]; omega)]
      by_cases e : k - 27 = i
      · rw [if_pos e, if_pos (by omega), e]; omega
      · rw [if_neg e, if_neg (by omega)]; omega
    · rw [if_neg hk2, if_neg hk2, if_neg (by omega)]; omega
  · show lo left i ≤ tgt left got bank (27 + i)
    unfold tgt
    rw [if_neg (by omega), if_neg (by omega), if_pos (by omega), show (27 : Int) + i - 27 = i by omega]
    exact Int.le_refl _
/-- sums of lists -/
def sm : List Int → Int
  | [] => 0
  | x :: r => x + sm r
theorem sm_set : ∀ (l : List Int) (i : Nat) (h : i < l.length) (x : Int), sm (l.set i x) = sm l - l[i] + x
  | y :: r, 0, _, x => by simp [sm]; omega
  | y :: r, i + 1, h, x => by
    simp only [List.set_cons_succ, sm, List.getElem_cons_succ]
    rw [sm_set r i (by simpa using h) x]; omega
theorem sm_take : ∀ (l : List Int) (i : Nat) (h : i < l.length), sm (l.take (i + 1)) = sm (l.take i) + l[i]
  | y :: r, 0, _ => by simp [sm]
  | y :: r, i + 1, h => by
    simp only [List.take_succ_cons, sm, List.getElem_cons_succ]
    rw [sm_take r i (by simpa using h)]; omega
/-- the first ones are zero -/
def zer (j : Nat) (l : List Int) : List Int := l.mapIdx fun i x => if i < j then 0 else x
theorem zer_len (j : Nat) (l : List Int) : (zer j l).length = l.length := by simp [zer]
theorem zer_get {j : Nat} {l : List Int} {i : Nat} (h : i < (zer j l).length) (h' : i < l.length) : (zer j l)[i] = if i < j then 0 else l[i] := by simp [zer]
theorem zer_set {j : Nat} {l : List Int} : (zer j l).set j 0 = zer (j + 1) l := by
  apply List.ext_getElem (by simp [zer_len])
  intro i h1 h2
  rw [zer_len] at h2
  rw [List.getElem_set, zer_get _ h2, zer_get _ h2]
  by_cases e : j = i
  · subst e; simp
  · rw [if_neg e]
    by_cases h3 : i < j
    · rw [if_pos h3, if_pos (by omega)]
    · rw [if_neg h3, if_neg (by omega)]
theorem zer_zero (l : List Int) : zer 0 l = l := by
  apply List.ext_getElem (zer_len _ _)
  intro i h1 h2
  rw [zer_get _ h2]; simp
theorem st_free {ms : List MoveD} {left got : List Int} {bank : Int} (h : St ms left got bank) (hn : ∀ x ∈ left, am x = true) : ∀ j : Nat, j ≤ 24 → St (ms ++ (mk freeM left).take j) (zer j left) got (bank + sm (left.take j))
  | 0, _ => by simpa [zer_zero, sm] using h
  | j + 1, hj => by
    have ih := st_free h hn j (by omega)
    have hl : j < left.length := by rw [h.ll]; omega
    have e1 : lo (zer j left) j = left[j] := by
      rw [← lo_get (by rw [zer_len]; exact hl), zer_get _ hl]; simp
    have := ih.free (i := j) (by omega) (by rw [e1]; exact hn _ (List.getElem_mem hl))
    rw [e1, zer_set] at this
    rw [mk_take hl, ← List.append_assoc, sm_take _ _ hl, ← Int.add_assoc]
    exact this
theorem promise_end {ms : List MoveD} {left got : List Int} {bank sum : Int} (h : St ms left got bank) (hb : bank = -(sm left + sum)) (hn : ∀ x ∈ left, am x = true) (hlen : ms.length ≤ 4000) :
    ∃ B, Bk.balances zs (ren 0 (ms ++ mk freeM left)) = (B, 0) ∧ B.length = 115 ∧ lo B 0 = -sum ∧ (∀ i : Nat, i < 24 → lo B (27 + i) = 0) ∧ ∀ i : Nat, i < 64 → lo B (51 + i) = lo got i := by
  have hf := st_free h hn 24 (by omega)
  rw [List.take_of_length_le (by rw [mk_len, h.ll]; omega), List.take_of_length_le (by rw [h.ll]; omega)] at hf
  generalize hL : ms ++ mk freeM left = L at *
  have hLl : L.length ≤ 4024 := by rw [← hL, List.length_append, mk_len, h.ll]; omega
  have hw : Bk.wrong zs (ren 0 L) = 0 := by
    have hc : Bk.chk (ren 0 L) = 0 := by
      unfold Bk.chk
      have := ren_ok L 0 hf.mv
      rw [if_neg (by rw [ren_len]; omega), if_pos (by simpa using this)]
    unfold Bk.wrong
    rw [if_neg (by simp [hc]), zs_start]; rfl
  refine ⟨Bk.after zs L, ?_, after_len L, ?_, fun i hi => ?_, fun i hi => ?_⟩
  · unfold Bk.balances
    rw [if_neg (by simp [hw]), ren_bad, hf.bad, ren_after]
  · rw [hf.bal 0 (by omega) (by omega)]
    unfold tgt
    rw [if_pos rfl, hb]; omega
  · rw [hf.bal _ (by omega) (by omega)]
    unfold tgt
    rw [if_neg (by omega), if_neg (by omega), if_pos (by omega), show (27 : Int) + i - 27 = i by omega]
    rw [← lo_get (by rw [zer_len, h.ll]; exact hi), zer_get _ (by rw [h.ll]; exact hi), if_pos hi]
  · rw [hf.bal _ (by omega) (by omega)]
    unfold tgt
    rw [if_neg (by omega), if_neg (by omega), if_neg (by omega), show (51 : Int) + i - 51 = i by omega]
end Bd
end Go.Fk
