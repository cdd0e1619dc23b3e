import Derived.Test.YtbkjgnfnjgebiaaDoorF3
import Derived.Test.YtbkjgnfnjgebiaaDoorMarks
import Derived.Test.YtbkjgnfnjgebiaaDoorHeld
import Derived.Lib.SplitLaws
import Derived.Lib.AtoiAll
namespace Go.Proofs.YtbkjgnfnjgebiaaDoor.Lib
open Go.RowKit Go.Proofs.YtbkjgnfnjgebiaaDoor.F Go.Proofs.YtbkjgnfnjgebiaaDoorW.PrintWords Go.Proofs.YtbkjgnfnjgebiaaDoorW.PrintLast Go.Proofs.YtbkjgnfnjgebiaaDoorW.PrintMore
def bs (l : List UInt8) : ByteArray := ⟨l.toArray⟩
theorem bs_list (l : List UInt8) : (bs l).data.toList = l := by simp [bs]
theorem bs_of (s : ByteArray) : bs s.data.toList = s := by apply ByteArray.ext; simp [bs]
theorem bs_eq {s : ByteArray} {l : List UInt8} (h : s.data.toList = l) : s = bs l := by rw [← h, bs_of]
theorem size_len (s : ByteArray) : s.size = s.data.toList.length := by rw [Array.length_toList]; rfl
theorem bt_eq (s : ByteArray) (i : Nat) (h : i < s.data.toList.length) : bt s (i : Int) = ((s.data.toList[i]).toNat : Int) := by
  have h2 : i < s.size := by rw [size_len]; exact h
  unfold bt
  rw [dif_pos (by rw [Int.toNat_natCast]; exact h2)]
  congr 1
/-! ### Cut at each blank -/
def pieces : List UInt8 → List (List UInt8)
  | [] => [[]]
  | c :: r => if c = 32 then [] :: pieces r else match pieces r with
    | [] => [[c]]
    | p :: q => (c :: p) :: q
theorem pieces_clean : ∀ p r : List UInt8, (∀ c ∈ p, c ≠ 32) → pieces (p ++ 32 :: r) = p :: pieces r
  | [], r, _ => by rw [List.nil_append, pieces, if_pos rfl]
  | c :: p, r, h => by
    have hc := h c (by simp)
    rw [List.cons_append, pieces, if_neg hc, pieces_clean p r (fun x hx => h x (by simp [hx]))]
theorem pieces_last : ∀ p : List UInt8, (∀ c ∈ p, c ≠ 32) → pieces p = [p]
  | [], _ => rfl
  | c :: p, h => by
    have hc := h c (by simp)
    rw [pieces, if_neg hc, pieces_last p (fun x hx => h x (by simp [hx]))]
theorem splitK_pieces : ∀ (l : List UInt8) (k : Nat), Go.Lib.count l [32] = k → Go.Lib.splitK [32] 0 k l = pieces l
  | [], k, _ => by
    cases k with
    | zero => rfl
    | succ k => rw [Go.Lib.splitK]; rfl
  | c :: r, k, h => by
    by_cases hc : c = 32
    · subst hc
      rw [Go.Lib.count_cons_eq] at h
      obtain ⟨k, rfl⟩ : ∃ j, k = j + 1 := ⟨k - 1, by omega⟩
      have ih := splitK_pieces r k (by omega)
      have hix : Go.Lib.index (32 :: r) [32] = 0 := by rw [Go.Lib.index]; simp [List.isPrefixOf]
      rw [Go.Lib.splitK, hix, if_neg (by decide), pieces, if_pos rfl]
      simp only [Int.toNat_zero, Nat.add_zero, List.take_zero, List.length_singleton, Nat.zero_add, List.drop_succ_cons, List.drop_zero]
      rw [ih]
    · rw [Go.Lib.count_cons_ne c 32 r hc] at h
      have ih := splitK_pieces r k h
      have hp : ([32] : List UInt8).isPrefixOf (c :: r) = false := by simp [List.isPrefixOf, Ne.symm hc]
      have hix : Go.Lib.index (c :: r) [32] = if Go.Lib.index r [32] == -1 then -1 else Go.Lib.index r [32] + 1 := by rw [Go.Lib.index, hp]; simp
      rw [pieces, if_neg hc]
      cases k with
      | zero =>
        rw [Go.Lib.splitK] at ih ⊢
        rw [← ih]
      | succ k =>
        rw [Go.Lib.splitK] at ih ⊢
        by_cases hm : Go.Lib.index r [32] = -1
        · rw [if_pos (beq_iff_eq.2 hm)] at ih
          rw [← ih, hix, if_pos (beq_iff_eq.2 hm), if_pos (by decide)]
        · have hge := Go.Lib.index_ge r [32]
          obtain ⟨j, hj⟩ : ∃ j : Nat, Go.Lib.index r [32] = (j : Int) := ⟨(Go.Lib.index r [32]).toNat, by omega⟩
          rw [if_neg (fun e => hm (beq_iff_eq.1 e)), hj, Int.toNat_natCast] at ih
          rw [← ih, hix, if_neg (fun e => hm (beq_iff_eq.1 e)), if_neg (fun e => by have := beq_iff_eq.1 e; omega), hj, show ((j : Int) + 1).toNat = j + 1 by omega]
          simp [Nat.add_right_comm]
theorem split_words (s : ByteArray) : Go.Lib.splitB (⟨#[32]⟩ : ByteArray) 0 (Go.Lib.countB s (⟨#[32]⟩ : ByteArray)) s = (pieces s.data.toList).map bs := by
  have h := Go.Lib.splitB_data (⟨#[32]⟩ : ByteArray) 0 (Go.Lib.countB s (⟨#[32]⟩ : ByteArray)) s
  have e : (⟨#[32]⟩ : ByteArray).data.toList = [32] := rfl
  rw [e, splitK_pieces _ _ rfl] at h
  rw [← h, List.map_map]
  conv => lhs; rw [← List.map_id (Go.Lib.splitB _ _ _ _)]
  exact List.map_congr_left fun x _ => (bs_of x).symm
theorem words_len (s : ByteArray) : ((pieces s.data.toList).map bs).length = Go.Lib.countB s (⟨#[32]⟩ : ByteArray) + 1 := by
  rw [← split_words]
  exact Go.Lib.splitB_all _ (by decide) 0 _ s rfl
theorem words_few (s : ByteArray) : Go.Lib.countB s (⟨#[32]⟩ : ByteArray) ≤ s.size := Go.Lib.countB_le _ (by decide) s.size s (Nat.le_refl _)
theorem split_eq (s : ByteArray) (h : s.size ≤ 100) : strings_Split.f s (⟨#[32]⟩ : ByteArray) = some ((pieces s.data.toList).map bs) := by
  have h1 := words_len s
  have h2 := words_few s
  unfold strings_Split.f
  rw [if_pos (by omega), if_pos (by decide), split_words, if_pos h1, if_pos (by omega)]
theorem l1Split_ev (s : ByteArray) (h : s.size ≤ 100) : Evt (fun k => spec_l1Split.f k s 32) ((pieces s.data.toList).map bs) := by
  have hs := size_len s
  have key : ∀ i, i ≤ s.data.toList.length → ∀ st : List ByteArray × Nat, st.1.length ≤ i → st.2 ≤ i → (∀ c ∈ (s.data.toList.take i).drop st.2, c ≠ 32) → Evt (fun k => spec_l1Split.l0 k s 32 st.1 (st.2 : Int) (i : Int)) (st.1 ++ (pieces (s.data.toList.drop st.2)).map bs) := by
    refine down (P := fun i (st : List ByteArray × Nat) => st.1.length ≤ i → st.2 ≤ i → (∀ c ∈ (s.data.toList.take i).drop st.2, c ≠ 32) → Evt (fun k => spec_l1Split.l0 k s 32 st.1 (st.2 : Int) (i : Int)) (st.1 ++ (pieces (s.data.toList.drop st.2)).map bs)) ?_ ?_
    · rintro ⟨out, a⟩ h1 h2 h3
      have h1' : out.length ≤ s.data.toList.length := h1
      have h2' : a ≤ s.data.toList.length := h2
      have h3' : ∀ c ∈ s.data.toList.drop a, c ≠ 32 := by intro c hc; exact h3 c (by rw [List.take_length]; exact hc)
      refine Evt.step ?_
      simp only [spec_l1Split.l0]
      refine Evt.neg (by omega) (Evt.pos (by omega) (Evt.pos (by omega) (Evt.pos (by omega) ((Evt.ok _).cast ?_))))
      rw [pieces_last _ h3', Int.toNat_natCast]
      congr 1
      rw [List.map_cons, List.map_nil]
      congr 1
      refine bs_eq ?_
      rw [Go.Lib.extract_data, List.take_of_length_le (by rw [List.length_drop]; omega)]
    · rintro i hi ih ⟨out, a⟩ h1 h2 h3
      have h1' : out.length ≤ i := h1
      have h2' : a ≤ i := h2
      have h3' : ∀ c ∈ (s.data.toList.take i).drop a, c ≠ 32 := h3
      refine Evt.step ?_
      simp only [spec_l1Split.l0, bt_eq s i hi]
      rw [wrapN i _ hi (by omega)]
      refine Evt.pos (by omega) (Evt.pos (by omega) ?_)
      have e1 : s.data.toList.take (i + 1) = s.data.toList.take i ++ [s.data.toList[i]] := List.take_succ_eq_append_getElem hi
      by_cases c : s.data.toList[i] = 32
      · refine Evt.pos (by rw [c]; rfl) (Evt.pos (by omega) (Evt.pos (by omega) (Evt.pos (by omega) (Evt.pos (by omega) ?_))))
        rw [Int.toNat_natCast, Int.toNat_natCast]
        have hx : s.extract a i = bs ((s.data.toList.take i).drop a) := bs_eq (by rw [Go.Lib.extract_data, List.take_drop, show a + (i - a) = i by omega])
        have e2 : s.data.toList.drop a = (s.data.toList.take i).drop a ++ 32 :: s.data.toList.drop (i + 1) := by
          have e3 : s.data.toList = s.data.toList.take i ++ s.data.toList.drop i := (List.take_append_drop i _).symm
          have e4 : s.data.toList.drop i = 32 :: s.data.toList.drop (i + 1) := by rw [List.drop_eq_getElem_cons hi, c]
          rw [e4] at e3
          conv => lhs; rw [e3]
          rw [List.drop_append_of_le_length (by rw [List.length_take]; omega)]
        have := ih (out ++ [s.extract a i], i + 1) (by show (out ++ [_]).length ≤ i + 1; rw [List.length_append, List.length_singleton]; omega) (Nat.le_refl _) (by intro c hc; rw [List.drop_of_length_le (by rw [List.length_take]; omega)] at hc; cases hc)
        refine this.cast ?_
        show (out ++ [s.extract a i]) ++ _ = out ++ _
        rw [e2, pieces_clean _ _ h3', List.map_cons, hx, List.append_assoc]
        rfl
      · refine Evt.neg (fun e => c ?_) (ih (out, a) (by show out.length ≤ i + 1; omega) (by show a ≤ i + 1; omega) ?_)
        · have : (s.data.toList[i]).toNat = 32 := by omega
          exact UInt8.toNat_inj.1 this
        · intro x hx
          rw [e1, List.drop_append_of_le_length (by rw [List.length_take]; omega)] at hx
          rcases List.mem_append.1 hx with hx | hx
          · exact h3' x hx
          · rw [List.mem_singleton.1 hx]; exact c
  unfold spec_l1Split.f
  have := key 0 (Nat.zero_le _) ([], 0) (Nat.le_refl _) (Nat.le_refl _) (by intro c hc; cases hc)
  exact this
end Go.Proofs.YtbkjgnfnjgebiaaDoor.Lib
