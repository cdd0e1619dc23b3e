import Derived.Test.YtbkjgnfnjgebiaaDoorF1
import Derived.Test.YtbkjgnfnjgebiaaDoorMarks
import Derived.Test.YtbkjgnfnjgebiaaDoorInts
import Derived.Lib.Join
namespace Go.Proofs.YtbkjgnfnjgebiaaDoor.Lib
open Go.RowKit Go.Proofs.YtbkjgnfnjgebiaaDoor.F Go.Proofs.YtbkjgnfnjgebiaaDoorW.PrintWords Go.Proofs.YtbkjgnfnjgebiaaDoorW.PrintLast Go.Proofs.YtbkjgnfnjgebiaaDoorW.PrintMore
def bs (l : List UInt8) : ByteArray := ⟨l.toArray⟩
theorem bs_size (l : List UInt8) : (bs l).size = l.length := by simp [bs, ByteArray.size]
theorem bs_list (l : List UInt8) : (bs l).data.toList = l := by simp [bs]
theorem bs_append (a b : List UInt8) : bs a ++ bs b = bs (a ++ b) := by
  apply ByteArray.ext
  simp [bs]
theorem digit_eq (u : Nat) (h : u < 10) : strOfNums [(wrap64 (48 + (u : Int))) % 256] = bs [UInt8.ofNat (48 + u)] := by
  have e : (wrap64 (48 + (u : Int)) % 256).toNat = 48 + u := by rw [wrap_id _ (by omega) (by omega)]; omega
  unfold strOfNums bs
  simp only [List.map_cons, List.map_nil, e]
theorem dig_lt (u : Nat) (h : u < 10) : Go.Lib.decDigits u = [UInt8.ofNat (48 + u)] := by rw [Go.Lib.decDigits, dif_pos h]
theorem dig_ge (u : Nat) (h : ¬ u < 10) : Go.Lib.decDigits u = Go.Lib.decDigits (u / 10) ++ [UInt8.ofNat (48 + u % 10)] := by rw [Go.Lib.decDigits, dif_neg h]
theorem dig_len (u : Nat) (h : u < 100) : (Go.Lib.decDigits u).length ≤ 2 := by
  by_cases c : u < 10
  · rw [dig_lt u c]; simp
  · rw [dig_ge u c, dig_lt (u / 10) (by omega)]; simp
theorem num1_ev (u : Nat) (h : u < 10) : Evt (fun k => spec_l1Num.f k (u : Int)) (bs (Go.Lib.decDigits u)) := by
  refine Evt.step ?_
  simp only [spec_l1Num.f]
  exact Evt.pos (by omega) ((Evt.ok _).cast (by rw [dig_lt u h]; exact digit_eq u h))
theorem num_ev (u : Nat) (h : u < 100) : Evt (fun k => spec_l1Num.f k (u : Int)) (bs (Go.Lib.decDigits u)) := by
  by_cases c : u < 10
  · exact num1_ev u c
  · have e1 : wrap64 (Int.tdiv (u : Int) 10) = ((u / 10 : Nat) : Int) := by
      rw [Int.tdiv_eq_ediv_of_nonneg (by omega), wrap_id _ (by omega) (by omega)]; omega
    have e2 : Int.tmod (u : Int) 10 = ((u % 10 : Nat) : Int) := by
      rw [Int.tmod_eq_emod_of_nonneg (by omega)]; omega
    refine Evt.step ?_
    simp only [spec_l1Num.f, e1, e2, Option.bind_some]
    refine Evt.neg (by omega) (Evt.bind (num1_ev (u / 10) (by omega)) ?_)
    rw [digit_eq (u % 10) (by omega)]
    refine Evt.pos ?_ ((Evt.ok _).cast ?_)
    · rw [bs_size, bs_size, dig_lt (u / 10) (by omega)]; simp
    · rw [bs_append, ← dig_ge u c]
def digs (m : List Int) : List (List UInt8) := m.map fun x => Go.Lib.decDigits x.toNat
def txt (m : List Int) : List UInt8 := Go.Lib.join (digs m) [32]
theorem lens_le (xs : List (List UInt8)) (h : ∀ y ∈ xs, y.length ≤ 2) : Go.Lib.lens xs ≤ 2 * xs.length := by
  induction xs with
  | nil => simp [Go.Lib.lens]
  | cons y r ih =>
    have h1 := h y (by simp)
    have h2 := ih fun z hz => h z (by simp [hz])
    simp only [Go.Lib.lens, List.map_cons, List.sum_cons, List.length_cons] at h2 ⊢
    omega
theorem join_len (xs : List (List UInt8)) (h : ∀ y ∈ xs, y.length ≤ 2) : (Go.Lib.join xs [32]).length ≤ 3 * xs.length := by
  cases xs with
  | nil => simp [Go.Lib.join_nil]
  | cons x r =>
    have h1 := h x (by simp)
    have h2 := lens_le r fun z hz => h z (by simp [hz])
    rw [Go.Lib.join_cons, List.length_append, Go.Lib.joinTail_length]
    simp only [List.length_cons, List.length_nil]
    omega
theorem join_snoc (x : List UInt8) (r : List (List UInt8)) (y sep : List UInt8) : Go.Lib.join ((x :: r) ++ [y]) sep = Go.Lib.join (x :: r) sep ++ sep ++ y := by
  rw [List.cons_append, Go.Lib.join_cons, Go.Lib.join_cons]
  simp [Go.Lib.joinTail, List.append_assoc]
def Few (m : List Int) : Prop := m.length ≤ 16 ∧ ∀ x ∈ m, 0 ≤ x ∧ x ≤ 50
theorem digs_two {m : List Int} (h : Few m) : ∀ y ∈ digs m, y.length ≤ 2 := by
  intro y hy
  obtain ⟨x, hx, rfl⟩ := List.mem_map.1 hy
  have := h.2 x hx
  exact dig_len _ (by omega)
theorem txt_len (m : List Int) (h : Few m) : (txt m).length ≤ 48 := by
  have h1 := join_len (digs m) (digs_two h)
  have h2 := h.1
  have h3 : (digs m).length = m.length := by simp [digs]
  unfold txt
  omega
theorem Few.take {m : List Int} (h : Few m) (i : Nat) : Few (m.take i) := ⟨by rw [List.length_take]; have := h.1; omega, fun x hx => h.2 x (List.mem_of_mem_take hx)⟩
theorem txt_step (m : List Int) (i : Nat) (hi : i < m.length) (h0 : 0 < i) : txt (m.take (i + 1)) = txt (m.take i) ++ [32] ++ Go.Lib.decDigits (m[i]).toNat := by
  have e : digs (m.take (i + 1)) = digs (m.take i) ++ [Go.Lib.decDigits (m[i]).toNat] := by
    unfold digs
    rw [takeN m i hi, List.map_append]
    rfl
  unfold txt
  rw [e]
  cases hq : digs (m.take i) with
  | nil =>
    have h1 : (digs (m.take i)).length = 0 := by rw [hq]; rfl
    have h2 : (digs (m.take i)).length = i := by unfold digs; rw [List.length_map, List.length_take]; omega
    omega
  | cons x r => exact join_snoc x r _ _
theorem l1Text_ev (m : List Int) (h : Few m) : Evt (fun k => spec_l1Text.f k m) (bs (txt m)) := by
  have hl := h.1
  have key : ∀ i, i ≤ m.length → ∀ s : ByteArray, s = bs (txt (m.take i)) → Evt (fun k => spec_l1Text.l0 k s m (m.length : Int) (i : Int)) (bs (txt m)) := by
    refine down (P := fun i (s : ByteArray) => s = bs (txt (m.take i)) → Evt (fun k => spec_l1Text.l0 k s m (m.length : Int) (i : Int)) (bs (txt m))) ?_ ?_
    · intro s hs
      rw [List.take_length] at hs
      subst hs
      refine Evt.step ?_
      simp only [spec_l1Text.l0]
      exact Evt.neg (natNotLt _) (Evt.ok _)
    · intro i hi ih s hs
      have hx := h.2 _ (List.getElem_mem hi)
      have hn : Evt (fun k => spec_l1Num.f k m[i]) (bs (Go.Lib.decDigits (m[i]).toNat)) := by
        have e : m[i] = (((m[i]).toNat : Nat) : Int) := by omega
        have := num_ev (m[i]).toNat (by omega)
        rwa [← e] at this
      have l1 := txt_len _ (h.take i)
      have l2 := dig_len (m[i]).toNat (by omega)
      subst hs
      refine Evt.step ?_
      simp only [spec_l1Text.l0, rdN m i hi]
      rw [wrapN i _ hi (by omega)]
      refine Evt.pos (natLt _ _ hi) (Evt.pos (by omega) (Evt.pos (natLt _ _ hi) ?_))
      by_cases h0 : 0 < i
      · refine Evt.pos (by omega) (Evt.pos (by rw [bs_size]; omega) (Evt.bind hn ?_))
        have e : bs (txt (m.take i)) ++ (⟨#[32]⟩ : ByteArray) = bs (txt (m.take i) ++ [32]) := bs_append _ [32]
        rw [e]
        refine Evt.pos (by rw [bs_size, bs_size, List.length_append]; simp only [List.length_cons, List.length_nil]; omega) (ih _ ?_)
        rw [bs_append, txt_step m i hi h0]
      · have hi0 : i = 0 := by omega
        subst hi0
        refine Evt.neg (by omega) (Evt.bind hn (Evt.pos (by rw [bs_size, bs_size]; omega) (ih _ ?_)))
        have e1 : txt (m.take 0) = [] := rfl
        have e2 : txt (m.take (0 + 1)) = Go.Lib.decDigits (m[0]).toNat := by
          rw [takeN m 0 hi]
          exact Go.Lib.join_one _ _
        rw [e1, e2, bs_append]
        rfl
  unfold spec_l1Text.f
  exact key 0 (Nat.zero_le _) _ rfl
theorem getDN' (l : List Int) (i : Nat) (h : i < l.length) : l.getD i 0 = l[i] := by simp [List.getD_eq_getElem?_getD, List.getElem?_eq_getElem h]
theorem itoa_eq (x : Int) (h0 : 0 ≤ x) (h1 : x ≤ 50) : strconv_Itoa_27.f x = some (bs (Go.Lib.decDigits x.toNat)) := by
  unfold strconv_Itoa_27.f
  rw [if_pos h0, if_pos (by omega)]
  rfl
theorem joinInts_ev (m : List Int) (h : Few m) (h0 : 0 < m.length) : Evt (fun k => impl_joinInts.f k m (⟨#[32]⟩ : ByteArray)) (bs (txt m)) := by
  have hl := h.1
  let f : Nat → ByteArray := fun i => bs (Go.Lib.decDigits (m.getD i 0).toNat)
  have hj : strings_Join.f ((List.range m.length).map f) (⟨#[32]⟩ : ByteArray) = some (bs (txt m)) := by
    have e : (((List.range m.length).map f).map fun x => x.data.toList) = digs m := by
      rw [List.map_map]
      unfold digs
      conv => rhs; rw [← map_range_get m 0]
      rw [List.map_map]
      refine List.map_congr_left fun i _ => ?_
      exact bs_list _
    have e2 : (⟨#[32]⟩ : ByteArray).data.toList = [32] := rfl
    have hl2 := txt_len m h
    unfold strings_Join.f
    rw [e, e2]
    rw [if_pos (by rw [List.length_map, List.length_range]; exact h0), if_pos (by rw [List.length_map, List.length_range]; omega), if_pos (by show (txt m).length ≤ _; omega)]
    rfl
  have key : ∀ i, i ≤ m.length → ∀ s : List ByteArray, s = filled f (⟨#[]⟩ : ByteArray) i m.length → Evt (fun k => impl_joinInts.l0 k (⟨#[32]⟩ : ByteArray) s m (m.length : Int) (i : Int)) (bs (txt m)) := by
    refine down (P := fun i (s : List ByteArray) => s = filled f (⟨#[]⟩ : ByteArray) i m.length → Evt (fun k => impl_joinInts.l0 k (⟨#[32]⟩ : ByteArray) s m (m.length : Int) (i : Int)) (bs (txt m))) ?_ ?_
    · intro s hs
      rw [filled_all] at hs
      subst hs
      refine Evt.step ?_
      simp only [impl_joinInts.l0]
      exact Evt.neg (natNotLt _) (Evt.bind0 hj (Evt.ok _))
    · intro i hi ih s hs
      have hx := h.2 _ (List.getElem_mem hi)
      have hsl : s.length = m.length := by rw [hs, filled_length _ _ _ _ (by omega)]
      refine Evt.step ?_
      simp only [impl_joinInts.l0, rdN m i hi, itoa_eq _ hx.1 hx.2, Option.bind_some]
      rw [wrapN i _ hi (by omega)]
      refine Evt.pos (natLt _ _ hi) (Evt.pos (by omega) (Evt.pos (natLt _ _ hi) (Evt.pos (by omega) (ih _ ?_))))
      rw [hs, Int.toNat_natCast, ← filled_set f _ i _ hi]
      congr 1
      show _ = bs (Go.Lib.decDigits (m.getD i 0).toNat)
      rw [getDN' m i hi]
  unfold impl_joinInts.f
  refine Evt.pos (by omega) (Evt.pos (by omega) ?_)
  rw [Int.toNat_natCast]
  exact key 0 (Nat.zero_le _) _ (filled_zero _ _ _).symm
theorem areMarks_one (p : Int) (m : List Int) (hm : Short m) : Evt (fun k => impl_areMarks.f k p [m]) (goodMark p m) := by
  have hg : Evt (fun k => impl_areMarks_1.f k m p) (!goodMark p m) := by
    unfold impl_areMarks_1.f
    exact Evt.bind (goodMark_ev p m hm) (Evt.ok _)
  have hi : Evt (fun k => slices_IndexFunc_int_int_at_impl_areMarks_1.f k [m] p) (if goodMark p m = true then -1 else 0) := by
    unfold slices_IndexFunc_int_int_at_impl_areMarks_1.f
    refine Evt.step ?_
    simp only [slices_IndexFunc_int_int_at_impl_areMarks_1.l0]
    refine Evt.pos (by simp) (Evt.pos (by omega) (Evt.pos (by simp) ?_))
    cases c : goodMark p m with
    | true =>
      rw [c] at hg
      refine Evt.bind hg (Evt.neg (by decide) (Evt.step ?_))
      simp only [slices_IndexFunc_int_int_at_impl_areMarks_1.l0]
      exact Evt.neg (by rw [show wrap64 (0 + 1) = 1 from wrap_id 1 (by omega) (by omega)]; simp) ((Evt.ok _).cast (by simp))
    | false =>
      rw [c] at hg
      exact Evt.bind hg (Evt.pos rfl ((Evt.ok _).cast (by simp)))
  unfold impl_areMarks.f slices_ContainsFunc_int_int_at_impl_areMarks_1.f
  cases c : goodMark p m with
  | true => rw [c] at hi; exact Evt.bind (Evt.bind hi (Evt.ok _)) ((Evt.ok _).cast (by simp))
  | false => rw [c] at hi; exact Evt.bind (Evt.bind hi (Evt.ok _)) ((Evt.ok _).cast (by simp))
theorem core_MarkText (p : Int) (m : List Int) (hm : Short m) : ∃ r : ByteArray × Bool, Evt (fun k => spec_MarkText.f k p m) r ∧ Evt (fun k => impl_MarkText.f k p m) r := by
  have ha := areMarks_one p m hm
  have hs := specGoodMark_ev p m hm
  unfold spec_MarkText.f impl_MarkText.f
  cases c : goodMark p m with
  | false =>
    rw [c] at ha hs
    exact ⟨((⟨#[]⟩ : ByteArray), false), Evt.bind hs (Evt.neg (by decide) (Evt.ok _)), Evt.bind ha (Evt.neg (by decide) (Evt.ok _))⟩
  | true =>
    have b := goodMark_bounds c
    have hf : Few m := ⟨by omega, b.2.2.2⟩
    rw [c] at ha hs
    exact ⟨(bs (txt m), true), Evt.bind hs (Evt.pos rfl (Evt.bind (l1Text_ev m hf) (Evt.ok _))), Evt.bind ha (Evt.pos rfl (Evt.bind (joinInts_ev m hf (by omega)) (Evt.ok _)))⟩
end Go.Proofs.YtbkjgnfnjgebiaaDoor.Lib
