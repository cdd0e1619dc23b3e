import Derived.Test.YtbkjgnfnjgebiaaDoorF3
import Derived.Test.YtbkjgnfnjgebiaaDoorReadMark
namespace Go.Proofs.YtbkjgnfnjgebiaaDoor.Lib
open Go.RowKit Go.Proofs.YtbkjgnfnjgebiaaDoor.F Go.Proofs.YtbkjgnfnjgebiaaDoorW.PrintWords Go.Proofs.YtbkjgnfnjgebiaaDoorW.PrintLast Go.Proofs.YtbkjgnfnjgebiaaDoorW.PrintMore
def rdV : List UInt8 → Nat → Int
  | [], v => (v : Int)
  | c :: r, v => if c.toNat < 48 then -1 else if 57 < c.toNat then -1 else rdV r (10 * v + (c.toNat - 48))
def readV : List UInt8 → Int
  | [] => -1
  | c :: r => if r.length ≤ 5 then (if c = 48 ∧ 0 < r.length then -1 else rdV (c :: r) 0) else -1
theorem rdV_ge : ∀ (l : List UInt8) (v : Nat), rdV l v = -1 ∨ (v : Int) ≤ rdV l v
  | [], v => .inr (Int.le_refl _)
  | c :: r, v => by
    rw [rdV]
    by_cases h1 : c.toNat < 48
    · rw [if_pos h1]; exact .inl rfl
    rw [if_neg h1]
    by_cases h2 : 57 < c.toNat
    · rw [if_pos h2]; exact .inl rfl
    rw [if_neg h2]
    rcases rdV_ge r (10 * v + (c.toNat - 48)) with h | h
    · exact .inl h
    · exact .inr (by omega)
theorem rdLoop (w : ByteArray) (h : w.data.toList.length ≤ 6) : Evt (fun k => spec_l1Read.l0 k w 0 0) (rdV w.data.toList 0) := by
  have hs := size_len w
  have key : ∀ i, i ≤ w.data.toList.length → ∀ v : Nat, v < 10 ^ i → Evt (fun k => spec_l1Read.l0 k w (v : Int) (i : Int)) (rdV (w.data.toList.drop i) v) := by
    refine down (P := fun i (v : Nat) => v < 10 ^ i → Evt (fun k => spec_l1Read.l0 k w (v : Int) (i : Int)) (rdV (w.data.toList.drop i) v)) ?_ ?_
    · intro v _
      refine Evt.step ?_
      simp only [spec_l1Read.l0]
      exact Evt.neg (by omega) ((Evt.ok _).cast (by rw [List.drop_length]; rfl))
    · intro i hi ih v hv
      have hb : 10 ^ i ≤ 10 ^ 6 := Nat.pow_le_pow_right (by decide) (by omega)
      have hb' : (10 : Nat) ^ 6 = 1000000 := rfl
      refine Evt.step ?_
      simp only [spec_l1Read.l0, bt_eq w i hi]
      rw [List.drop_eq_getElem_cons hi, rdV, wrapN i _ hi (by omega)]
      refine Evt.pos (by omega) (Evt.pos (by omega) ?_)
      by_cases h1 : (w.data.toList[i]).toNat < 48
      · rw [if_pos h1]; exact Evt.pos (by omega) (Evt.ok _)
      rw [if_neg h1]
      refine Evt.neg (by omega) ?_
      by_cases h2 : 57 < (w.data.toList[i]).toNat
      · rw [if_pos h2]; exact Evt.pos (by omega) (Evt.ok _)
      rw [if_neg h2]
      have e : wrap64 (wrap64 (10 * (v : Int)) + ((((w.data.toList[i]).toNat : Int) - 48) % 256)) = ((10 * v + ((w.data.toList[i]).toNat - 48) : Nat) : Int) := by
        rw [wrap_id (10 * (v : Int)) (by omega) (by omega), wrap_id _ (by omega) (by omega)]
        omega
      rw [e]
      exact Evt.neg (by omega) (ih _ (by rw [Nat.pow_succ]; omega))
  exact key 0 (Nat.zero_le _) 0 (by simp)
theorem l1Read_ev (w : ByteArray) (hw : w.size ≤ 1000) : Evt (fun k => spec_l1Read.f k w) (readV w.data.toList) := by
  have hs := size_len w
  have no : ∀ c : Bool, c = true → Evt (fun k => spec_l1Read.j0 k w c) (-1) := by
    intro c hc
    refine Evt.step ?_
    simp only [spec_l1Read.j0]
    exact Evt.pos hc (Evt.ok _)
  unfold spec_l1Read.f
  simp only [l1In_eq, Option.bind_some]
  cases hl : w.data.toList with
  | nil =>
    rw [hl] at hs
    simp only [List.length_nil] at hs
    exact Evt.neg (by unfold within; rw [decide_eq_true_eq]; omega) (no true rfl)
  | cons c r =>
    rw [hl, List.length_cons] at hs
    have hb : bt w 0 = (c.toNat : Int) := by
      have := bt_eq w 0 (by rw [hl]; simp)
      rw [show ((0 : Nat) : Int) = 0 from rfl] at this
      rw [this]
      simp [hl]
    rw [readV]
    by_cases h5 : r.length ≤ 5
    · rw [if_pos h5]
      refine Evt.pos (by unfold within; rw [decide_eq_true_eq]; omega) (Evt.pos (by omega) ?_)
      have loop := rdLoop w (by rw [hl, List.length_cons]; omega)
      rw [hl] at loop
      have yes : ∀ b : Bool, b = false → Evt (fun k => spec_l1Read.j0 k w b) (rdV (c :: r) 0) := by
        intro b hb
        refine Evt.step ?_
        simp only [spec_l1Read.j0]
        exact Evt.neg (by rw [hb]; decide) loop
      rw [hb]
      by_cases hc : c = 48
      · refine Evt.pos (by rw [hc]; rfl) ?_
        by_cases h0 : 0 < r.length
        · rw [if_pos ⟨hc, h0⟩]; exact no _ (decide_eq_true (by omega))
        · rw [if_neg (fun h => h0 h.2)]; exact yes _ (decide_eq_false (by omega))
      · rw [if_neg (fun h => hc h.1)]
        exact Evt.neg (fun e => hc (UInt8.toNat_inj.1 (by show c.toNat = 48; omega))) (yes false rfl)
    · rw [if_neg h5]
      exact Evt.neg (by unfold within; rw [decide_eq_true_eq]; omega) (no true rfl)
theorem dig_lt (u : Nat) (h : u < 10) : Go.Lib.decDigits u = [UInt8.ofNat (48 + u)] := by rw [Go.Lib.decDigits, dif_pos h]
theorem dig_ge (u : Nat) (h : ¬ u < 10) : Go.Lib.decDigits u = Go.Lib.decDigits (u / 10) ++ [UInt8.ofNat (48 + u % 10)] := by rw [Go.Lib.decDigits, dif_neg h]
theorem ofNat_toNat (n : Nat) (h : n < 256) : (UInt8.ofNat n).toNat = n := by rw [UInt8.toNat_ofNat']; omega
theorem byte_eq {c : UInt8} {n : Nat} (h : c.toNat = n) : UInt8.ofNat n = c := by rw [← h]; simp
theorem readV_dig (x : Nat) (h : x ≤ 50) : readV (Go.Lib.decDigits x) = (x : Int) := by
  by_cases c : x < 10
  · rw [dig_lt x c, readV, if_pos (by simp), if_neg (by simp), rdV, ofNat_toNat _ (by omega), if_neg (by omega), if_neg (by omega), rdV]
    omega
  · rw [dig_ge x c, dig_lt (x / 10) (by omega)]
    have e : ¬ UInt8.ofNat (48 + x / 10) = 48 := fun e => by
      have := congrArg UInt8.toNat e
      rw [ofNat_toNat _ (by omega)] at this
      have h2 : (48 : UInt8).toNat = 48 := rfl
      omega
    rw [List.singleton_append, readV, if_pos (by simp), if_neg (fun h => e h.1), rdV, ofNat_toNat _ (by omega), if_neg (by omega), if_neg (by omega), rdV, ofNat_toNat _ (by omega), if_neg (by omega), if_neg (by omega), rdV]
    omega
theorem dig_readV (l : List UInt8) (h0 : 0 ≤ readV l) (h1 : readV l ≤ 50) : l = Go.Lib.decDigits (readV l).toNat := by
  cases l with
  | nil => rw [readV] at h0; omega
  | cons c r =>
    rw [readV] at h0 h1 ⊢
    by_cases h6 : ¬ r.length ≤ 5
    · rw [if_neg h6] at h0; omega
    have h5 := Decidable.not_not.1 h6
    rw [if_pos h5] at h0 h1 ⊢
    by_cases hz : c = 48 ∧ 0 < r.length
    · rw [if_pos hz] at h0; omega
    rw [if_neg hz] at h0 h1 ⊢
    rw [rdV] at h0 h1 ⊢
    by_cases a1 : c.toNat < 48
    · rw [if_pos a1] at h0; omega
    rw [if_neg a1] at h0 h1 ⊢
    by_cases a2 : 57 < c.toNat
    · rw [if_pos a2] at h0; omega
    rw [if_neg a2] at h0 h1 ⊢
    cases r with
    | nil =>
      rw [rdV] at h0 h1 ⊢
      rw [dig_lt _ (by omega), byte_eq (c := c) (by omega)]
    | cons d q =>
      have hc : c.toNat ≠ 48 := fun e => hz ⟨UInt8.toNat_inj.1 e, by simp⟩
      rw [rdV] at h0 h1 ⊢
      by_cases b1 : d.toNat < 48
      · rw [if_pos b1] at h0; omega
      rw [if_neg b1] at h0 h1 ⊢
      by_cases b2 : 57 < d.toNat
      · rw [if_pos b2] at h0; omega
      rw [if_neg b2] at h0 h1 ⊢
      cases q with
      | nil =>
        rw [rdV] at h0 h1 ⊢
        rw [dig_ge _ (by omega), dig_lt _ (by omega), byte_eq (c := c) (by omega), byte_eq (c := d) (by omega)]
        rfl
      | cons e s =>
        exfalso
        rw [rdV] at h0 h1
        by_cases d1 : e.toNat < 48
        · rw [if_pos d1] at h0; omega
        rw [if_neg d1] at h0 h1
        by_cases d2 : 57 < e.toNat
        · rw [if_pos d2] at h0; omega
        rw [if_neg d2] at h0 h1
        rcases rdV_ge s (10 * (10 * (10 * 0 + (c.toNat - 48)) + (d.toNat - 48)) + (e.toNat - 48)) with h | h
        · rw [h] at h0; omega
        · omega
/-! ### The program's own reading -/
def iv (l : List UInt8) : Int × Bool := match Go.Lib.atoiAll l with
  | .ok v => if Go.Lib.itoa v = l then (v, true) else (0, false)
  | _ => (0, false)
theorem atoi1 : ∀ x : Fin 10, Go.Lib.atoiAll [UInt8.ofNat (48 + x.val)] = .ok (x.val : Int) := by decide +kernel
theorem atoi2 : ∀ a : Fin 6, ∀ b : Fin 10, 1 ≤ a.val → Go.Lib.atoiAll [UInt8.ofNat (48 + a.val), UInt8.ofNat (48 + b.val)] = .ok ((10 * a.val + b.val : Nat) : Int) := by decide +kernel
theorem atoi_dig (x : Nat) (h : x ≤ 50) : Go.Lib.atoiAll (Go.Lib.decDigits x) = .ok (x : Int) := by
  by_cases c : x < 10
  · rw [dig_lt x c]; exact atoi1 ⟨x, c⟩
  · rw [dig_ge x c, dig_lt (x / 10) (by omega)]
    have := atoi2 ⟨x / 10, by omega⟩ ⟨x % 10, by omega⟩ (by show 1 ≤ x / 10; omega)
    rw [List.singleton_append]
    rw [show (10 * (x / 10) + x % 10 : Nat) = x by omega] at this
    exact this
theorem iv_dig (x : Nat) (h : x ≤ 50) : iv (Go.Lib.decDigits x) = ((x : Int), true) := by
  unfold iv
  rw [atoi_dig x h]
  dsimp only
  rw [if_pos]
  unfold Go.Lib.itoa
  rw [if_neg (by omega), Int.toNat_natCast]
theorem dig_iv {l : List UInt8} {v : Int} (h : iv l = (v, true)) (h0 : 0 ≤ v) : l = Go.Lib.decDigits v.toNat := by
  unfold iv at h
  split at h
  · rename_i u _
    split at h
    · rename_i e
      injection h with h1 _
      subst h1
      rw [← e]
      unfold Go.Lib.itoa
      rw [if_neg (by omega)]
    · injection h with _ h2; cases h2
  · injection h with _ h2; cases h2
theorem atoi_bounds {l : List UInt8} {v : Int} (h : Go.Lib.atoiAll l = .ok v) : -9223372036854775808 ≤ v ∧ v ≤ 9223372036854775807 := by
  unfold Go.Lib.atoiAll at h
  split at h
  · cases h
  · dsimp only at h
    split at h
    · cases h
    · cases h
    · split at h
      · cases h
      · split at h
        · cases h
        · split at h <;> (injection h with h; omega)
theorem readInt_eq (w : ByteArray) (hw : w.size ≤ 1000) : impl_readInt.f w = some (iv w.data.toList) := by
  unfold impl_readInt.f iv
  rw [if_pos hw]
  cases hc : Go.Lib.atoiAll w.data.toList with
  | ok v =>
    have hb := atoi_bounds hc
    dsimp only
    rw [if_pos hb.1, if_pos hb.2]
    split <;> rfl
  | «syntax» => rfl
  | range => rfl
end Go.Proofs.YtbkjgnfnjgebiaaDoor.Lib
