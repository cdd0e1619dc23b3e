import Derived.Test.YtbkjgnfnjgebiaaDoorF3
import Derived.Test.YtbkjgnfnjgebiaaDoorReadWord
namespace Go.Proofs.YtbkjgnfnjgebiaaDoor.Lib
open Go.RowKit Go.Proofs.YtbkjgnfnjgebiaaDoor.F Go.Proofs.YtbkjgnfnjgebiaaDoorW.PrintWords Go.Proofs.YtbkjgnfnjgebiaaDoorW.PrintLast Go.Proofs.YtbkjgnfnjgebiaaDoorW.PrintMore
def sv (w : ByteArray) : Int := readV w.data.toList
def okW (w : ByteArray) : Bool := (iv w.data.toList).2
def valW (w : ByteArray) : Int := (iv w.data.toList).1
theorem rdW (W : List ByteArray) (i : Nat) (h : i < W.length) : rdOf ByteArray.empty W (i : Int) = W[i] := by unfold rdOf; rw [Int.toNat_natCast]; exact getDN W _ i h
section
variable (p : Int) (W : List ByteArray) (hW : W.length ≤ 200) (hs : ∀ w ∈ W, w.size ≤ 1000)
include hW hs
theorem specRead_loop : Evt (fun k => spec_ReadMark.l0 k p [] W (W.length : Int) 0) (if goodMark p (W.map sv) = true then (W.map sv, true) else ([], false)) := by
  have key : ∀ i, i ≤ W.length → ∀ s : List Int, s = (W.take i).map sv → Evt (fun k => spec_ReadMark.l0 k p s W (W.length : Int) (i : Int)) (if goodMark p (W.map sv) = true then (W.map sv, true) else ([], false)) := by
    refine down (P := fun i (s : List Int) => s = (W.take i).map sv → Evt (fun k => spec_ReadMark.l0 k p s W (W.length : Int) (i : Int)) (if goodMark p (W.map sv) = true then (W.map sv, true) else ([], false))) ?_ ?_
    · intro s e
      rw [List.take_length] at e
      subst e
      refine Evt.step ?_
      simp only [spec_ReadMark.l0]
      refine Evt.neg (natNotLt _) ?_
      have hg := specGoodMark_ev p (W.map sv) (by show (W.map sv).length ≤ _; rw [List.length_map]; omega)
      cases c : goodMark p (W.map sv) with
      | true => rw [c] at hg; exact Evt.bind hg (Evt.pos rfl (Evt.ok _))
      | false => rw [c] at hg; exact Evt.bind hg (Evt.neg (by decide) (Evt.ok _))
    · intro i hi ih s e
      have hsl : s.length = i := by rw [e, List.length_map, List.length_take]; omega
      refine Evt.step ?_
      simp only [spec_ReadMark.l0, rdW W i hi]
      rw [wrapN i _ hi (by omega)]
      refine Evt.pos (natLt _ _ hi) (Evt.pos (by omega) (Evt.pos (natLt _ _ hi) (Evt.bind (l1Read_ev W[i] (hs _ (List.getElem_mem hi))) (Evt.pos (by omega) (ih _ ?_)))))
      rw [e, List.take_succ_eq_append_getElem hi, List.map_append]
      rfl
  exact key 0 (Nat.zero_le _) [] rfl
theorem readInts_ev : Evt (fun k => impl_readInts.f k W) (if W.all okW = true then (W.map valW, true) else ([], false)) := by
  let f : Nat → Int := fun i => valW (W.getD i ByteArray.empty)
  have hf : (List.range W.length).map f = W.map valW := by
    conv => rhs; rw [← map_range_get W ByteArray.empty]
    rw [List.map_map]
    rfl
  have key : ∀ i, i ≤ W.length → ∀ s : List Int, s = filled f 0 i W.length → (∀ j, (hj : j < W.length) → j < i → okW W[j] = true) → Evt (fun k => impl_readInts.l0 k s W (W.length : Int) (i : Int)) (if W.all okW = true then (W.map valW, true) else ([], false)) := by
    refine down (P := fun i (s : List Int) => s = filled f 0 i W.length → (∀ j, (hj : j < W.length) → j < i → okW W[j] = true) → Evt (fun k => impl_readInts.l0 k s W (W.length : Int) (i : Int)) (if W.all okW = true then (W.map valW, true) else ([], false))) ?_ ?_
    · intro s e hok
      rw [filled_all] at e
      subst e
      have ha : W.all okW = true := List.all_eq_true.2 fun w hw => by
        obtain ⟨j, hj, rfl⟩ := List.getElem_of_mem hw
        exact hok j hj hj
      rw [if_pos ha, ← hf]
      refine Evt.step ?_
      simp only [impl_readInts.l0]
      exact Evt.neg (natNotLt _) (Evt.ok _)
    · intro i hi ih s e hok
      have hsl : s.length = W.length := by rw [e, filled_length _ _ _ _ (by omega)]
      refine Evt.step ?_
      simp only [impl_readInts.l0, rdW W i hi, readInt_eq W[i] (hs _ (List.getElem_mem hi)), Option.bind_some]
      rw [wrapN i _ hi (by omega)]
      refine Evt.pos (natLt _ _ hi) (Evt.pos (by omega) (Evt.pos (natLt _ _ hi) ?_))
      cases c : (iv (W[i]).data.toList).2 with
      | true =>
        refine Evt.pos rfl (Evt.pos (by omega) (ih _ ?_ ?_))
        · rw [e, Int.toNat_natCast, ← filled_set f 0 i _ hi]
          congr 1
          show _ = valW (W.getD i ByteArray.empty)
          rw [getDN W _ i hi]
          rfl
        · intro j hj hji
          by_cases e2 : j = i
          · subst e2; exact c
          · exact hok j hj (by omega)
      | false =>
        refine Evt.neg (by decide) ((Evt.ok _).cast ?_)
        rw [if_neg]
        intro ha
        have := List.all_eq_true.1 ha _ (List.getElem_mem hi)
        unfold okW at this
        rw [c] at this
        cases this
  unfold impl_readInts.f
  refine Evt.pos (by omega) (Evt.pos (by omega) ?_)
  rw [Int.toNat_natCast]
  exact key 0 (Nat.zero_le _) _ (filled_zero _ _ _).symm (fun j _ h => by omega)
omit hW hs in
theorem words_agree : (goodMark p (W.map sv) = true → W.all okW = true ∧ W.map valW = W.map sv) ∧ (W.all okW = true → goodMark p (W.map valW) = true → W.map sv = W.map valW) := by
  constructor
  · intro h
    have hb := (goodMark_bounds h).2.2.2
    have one : ∀ w ∈ W, iv w.data.toList = (sv w, true) := by
      intro w hw
      have := hb (sv w) (List.mem_map.2 ⟨w, hw, rfl⟩)
      have e := dig_readV w.data.toList this.1 this.2
      have e2 := iv_dig (readV w.data.toList).toNat (by unfold sv at this; omega)
      rw [← e] at e2
      rw [e2]
      congr 1
      unfold sv at this ⊢
      omega
    refine ⟨List.all_eq_true.2 fun w hw => by unfold okW; rw [one w hw], List.map_congr_left fun w hw => by unfold valW; rw [one w hw]⟩
  · intro ha h
    have hb := (goodMark_bounds h).2.2.2
    refine List.map_congr_left fun w hw => ?_
    have hv := hb (valW w) (List.mem_map.2 ⟨w, hw, rfl⟩)
    have ho : (iv w.data.toList).2 = true := List.all_eq_true.1 ha w hw
    have e := dig_iv (l := w.data.toList) (v := valW w) (by unfold valW; rw [← ho]) hv.1
    have e2 := readV_dig (valW w).toNat (by omega)
    rw [← e] at e2
    unfold sv
    rw [e2]
    omega
end
theorem pieces_sizes : ∀ (l : List UInt8), ∀ q ∈ pieces l, q.length ≤ l.length
  | [], q, h => by rw [pieces, List.mem_singleton] at h; subst h; exact Nat.le_refl _
  | c :: r, q, h => by
    rw [pieces] at h
    by_cases hc : c = 32
    · rw [if_pos hc] at h
      rcases List.mem_cons.1 h with rfl | h
      · simp
      · have := pieces_sizes r q h; rw [List.length_cons]; omega
    · rw [if_neg hc] at h
      cases hp : pieces r with
      | nil =>
        rw [hp] at h
        rw [List.mem_singleton.1 h]
        simp
      | cons a b =>
        rw [hp] at h
        rcases List.mem_cons.1 h with rfl | h
        · have := pieces_sizes r a (by rw [hp]; simp)
          simp only [List.length_cons]; omega
        · have := pieces_sizes r q (by rw [hp]; simp [h])
          rw [List.length_cons]; omega
theorem core_ReadMark (p : Int) (s : ByteArray) : ∃ r : List Int × Bool, Evt (fun k => spec_ReadMark.f k p s) r ∧ Evt (fun k => impl_ReadMark.f k p s) r ∧ r.1.length ≤ 16 := by
  unfold spec_ReadMark.f impl_ReadMark.f
  by_cases c : (s.size : Int) > 100
  · exact ⟨([], false), Evt.pos c (Evt.ok _), Evt.pos c (Evt.ok _), by simp⟩
  have h1 := words_len s
  have h2 := words_few s
  have hW : ((pieces s.data.toList).map bs).length ≤ 200 := by omega
  have hs : ∀ w ∈ (pieces s.data.toList).map bs, w.size ≤ 1000 := by
    intro w hw
    obtain ⟨q, hq, rfl⟩ := List.mem_map.1 hw
    have a := pieces_sizes _ q hq
    have b := size_len s
    rw [size_len, bs_list]
    omega
  have e1 := specRead_loop p _ hW hs
  have e2 := readInts_ev _ hW hs
  have e3 := words_agree p ((pieces s.data.toList).map bs)
  have l1 := l1Split_ev s (by omega)
  have l2 := split_eq s (by omega)
  generalize (pieces s.data.toList).map bs = W at *
  cases g : goodMark p (W.map sv) with
  | true =>
    obtain ⟨a, b⟩ := e3.1 g
    rw [g, if_pos rfl] at e1
    rw [if_pos a, b] at e2
    have hb := goodMark_bounds g
    have hg := goodMark_ev p (W.map sv) (by show (W.map sv).length ≤ _; rw [List.length_map]; omega)
    rw [g] at hg
    exact ⟨(W.map sv, true), Evt.neg c (Evt.bind l1 e1), Evt.neg c (Evt.bind0 l2 (Evt.bind e2 (Evt.pos rfl (Evt.bind hg (Evt.pos rfl (Evt.ok _)))))), by show (W.map sv).length ≤ 16; omega⟩
  | false =>
    rw [g, if_neg (by decide)] at e1
    refine ⟨([], false), Evt.neg c (Evt.bind l1 e1), Evt.neg c (Evt.bind0 l2 ?_), by simp⟩
    cases a : W.all okW with
    | false =>
      rw [a, if_neg (by decide)] at e2
      exact Evt.bind e2 (Evt.neg (by decide) (Evt.ok _))
    | true =>
      rw [a, if_pos rfl] at e2
      have hg := goodMark_ev p (W.map valW) (by show (W.map valW).length ≤ _; rw [List.length_map]; omega)
      cases g2 : goodMark p (W.map valW) with
      | true =>
        have := e3.2 a g2
        rw [this, g2] at g
        cases g
      | false =>
        rw [g2] at hg
        exact Evt.bind e2 (Evt.pos rfl (Evt.bind hg (Evt.neg (by decide) (Evt.ok _))))
end Go.Proofs.YtbkjgnfnjgebiaaDoor.Lib
