import Derived.Test.YtffdacmdgfpnmaaF2
import Derived.Test.YtffdacmdgfpnmaaF5
import Derived.Test.YtffdacmdgfpnmaaKeeps
import Derived.Test.YtffdacmdgfpnmaaFilter
namespace Go.Proofs.Ytffdacmdgfpnmaa.Lib
open Go.RowKit Go.Proofs.Ytffdacmdgfpnmaa.F Go.Proofs.YtffdacmdgfpnmaaW.PrintWords Go.Proofs.YtffdacmdgfpnmaaW.PrintLast Go.Proofs.YtffdacmdgfpnmaaW.PrintMore
theorem isBig_unique {s : Bool} {ts : List Tr} {x y z : Nat} (h : isBig s ts x y) (h' : isBig s ts x z) : y = z := sub_antisymm (h'.2.2 y h.1 h.2.1) (h.2.2 z h'.1 h'.2.1)
def cut (x ps : List Int) : List Int := x.filter fun q => !has ps q
theorem has_iff (ps : List Int) (q : Int) : has ps q = true ↔ q ∈ ps := by
  simp only [has, List.any_eq_true, decide_eq_true_eq]
  exact ⟨fun ⟨x, h, e⟩ => e ▸ h, fun h => ⟨q, h, rfl⟩⟩
theorem mem_cut (x ps : List Int) (q : Int) : q ∈ cut x ps ↔ q ∈ x ∧ q ∉ ps := by
  simp only [cut, List.mem_filter, Bool.not_eq_true', ← Bool.not_eq_true, has_iff]
theorem isBig_step {s : Bool} {ts : List Tr} {x : List Int} {Y : Nat} {t : Tr} (ht : t ∈ ts) (hx : ∀ q ∈ x, 0 ≤ q) (hb : bad s (mask x) t) (h : isBig s ts (mask (cut x (sideA s t))) Y) : isBig s ts (mask x) Y := by
  have hc : ∀ q ∈ cut x (sideA s t), 0 ≤ q := fun q hq => hx q ((mem_cut _ _ _).1 hq).1
  refine ⟨fun i hi => ?_, h.2.1, fun z hz hok => h.2.2 z (fun i hi => ?_) hok⟩
  · have := h.1 i hi
    rw [mask_bit _ hc] at this
    rw [mask_bit _ hx]
    exact decide_eq_true ((mem_cut _ _ _).1 (of_decide_eq_true this)).1
  · have h1 := hz i hi
    rw [mask_bit _ hx] at h1
    rw [mask_bit _ hc]
    refine decide_eq_true ((mem_cut _ _ _).2 ⟨of_decide_eq_true h1, fun hm => ?_⟩)
    exact hok t ht ⟨⟨i, hm, hi⟩, fun ⟨j, hj1, hj2⟩ => hb.2 ⟨j, hj1, hz j hj2⟩⟩
theorem big_gen {ρ : Type} (s : Bool) (ts : List Tr) (hp : ∀ t ∈ ts, inPlaces t) (l : List Int) (hl : ∀ q ∈ l, 0 ≤ q ∧ q < 16) (L0 : Nat → List Int → Option ρ) (L1 : Nat → List Int → Nat → Option ρ) (f : List Int → ρ)
    (h0yes : ∀ x, List.Sublist x l → ts.all (keepsT s x) = true → Evt (fun k => L0 (k + 1) x) (f x))
    (h0no : ∀ x, List.Sublist x l → ts.all (keepsT s x) = false → ∀ r, Evt (fun k => L1 k x 0) r → Evt (fun k => L0 (k + 1) x) r)
    (h1end : ∀ x, ∀ r, Evt (fun k => L0 k x) r → Evt (fun k => L1 (k + 1) x ts.length) r)
    (h1keep : ∀ x, List.Sublist x l → ∀ i (hi : i < ts.length), keepsT s x ts[i] = true → ∀ r, Evt (fun k => L1 k x (i + 1)) r → Evt (fun k => L1 (k + 1) x i) r)
    (h1drop : ∀ x, List.Sublist x l → ∀ i (hi : i < ts.length), keepsT s x ts[i] = false → ∀ r, Evt (fun k => L1 k (cut x (sideA s ts[i])) (i + 1)) r → Evt (fun k => L1 (k + 1) x i) r) :
    ∀ n, ∀ x, x.length = n → List.Sublist x l → ∃ y, Evt (fun k => L0 k x) (f y) ∧ List.Sublist y x ∧ isBig s ts (mask x) (mask y) := by
  intro n
  induction n using Nat.strongRecOn with
  | ind n IH =>
  intro x hxn hxl
  have hx0 : ∀ z, List.Sublist z l → ∀ q ∈ z, 0 ≤ q := fun z hz q hq => (hl q (hz.subset hq)).1
  cases hall : ts.all (keepsT s x) with
  | true => exact ⟨x, Evt.step (h0yes x hxl hall), List.Sublist.refl x, fun i hi => hi, (okSet_all s ts x hp (hx0 x hxl)).2 hall, fun z hz _ => hz⟩
  | false =>
    have key : ∀ i, i ≤ ts.length → ∀ z : List Int, List.Sublist z x → (z.length < x.length ∨ z = x ∧ ∀ j (hj : j < i) (hj2 : j < ts.length), keepsT s x ts[j] = true) →
        ∃ y, Evt (fun k => L1 k z i) (f y) ∧ List.Sublist y z ∧ isBig s ts (mask z) (mask y) := by
      refine down (P := fun i (z : List Int) => List.Sublist z x → (z.length < x.length ∨ z = x ∧ ∀ j (hj : j < i) (hj2 : j < ts.length), keepsT s x ts[j] = true) →
        ∃ y, Evt (fun k => L1 k z i) (f y) ∧ List.Sublist y z ∧ isBig s ts (mask z) (mask y)) ?_ ?_
      · intro z hz hd
        rcases hd with hd | ⟨rfl, hd⟩
        · obtain ⟨y, h1, h2, h3⟩ := IH z.length (by omega) z rfl (hz.trans hxl)
          exact ⟨y, Evt.step (h1end z _ h1), h2, h3⟩
        · exfalso
          have : ts.all (keepsT s z) = true := by
            rw [List.all_eq_true]
            intro t ht
            obtain ⟨j, hj, rfl⟩ := List.getElem_of_mem ht
            exact hd j hj hj
          rw [this] at hall; cases hall
      · intro i hi ih z hz hd
        have hzl := hz.trans hxl
        cases hk : keepsT s z ts[i] with
        | true =>
          obtain ⟨y, h1, h2, h3⟩ := ih z hz (by
            rcases hd with hd | ⟨rfl, hd⟩
            · exact .inl hd
            · refine .inr ⟨rfl, fun j hj hj2 => ?_⟩
              by_cases e : j = i
              · subst e; exact hk
              · exact hd j (by omega) hj2)
          exact ⟨y, Evt.step (h1keep z hzl i hi hk _ h1), h2, h3⟩
        | false =>
          have hin := hp ts[i] (List.getElem_mem hi)
          have hb : bad s (mask z) ts[i] := by
            refine Classical.not_not.1 (fun hn => ?_)
            rw [(keepsT_iff s z ts[i] hin (hx0 z hzl)).2 hn] at hk; cases hk
          have hcs : List.Sublist (cut z (sideA s ts[i])) z := List.filter_sublist
          have hlt : (cut z (sideA s ts[i])).length < z.length := by
            refine List.length_filter_lt_length_iff_exists.2 ?_
            obtain ⟨j, hj1, hj2⟩ := hb.1
            rw [mask_bit z (hx0 z hzl)] at hj2
            exact ⟨(j : Int), of_decide_eq_true hj2, by simp [(has_iff _ _).2 hj1]⟩
          have hzx : z.length ≤ x.length := hz.length_le
          obtain ⟨y, h1, h2, h3⟩ := ih (cut z (sideA s ts[i])) (hcs.trans hz) (.inl (by omega))
          exact ⟨y, Evt.step (h1drop z hzl i hi hk _ h1), h2.trans hcs, isBig_step (List.getElem_mem hi) (hx0 z hzl) hb h3⟩
    obtain ⟨y, h1, h2, h3⟩ := key 0 (Nat.zero_le _) x (List.Sublist.refl x) (.inr ⟨rfl, fun j hj => by omega⟩)
    exact ⟨y, Evt.step (h0no x hxl hall _ h1), h2, h3⟩
theorem l8Without_ev (x ps : List Int) (hx : Short x) (hp : Short ps) : Evt (fun k => spec_l8Without.f k x ps) (cut x ps) := by
  have hx' : x.length ≤ 17592186044415 := hx
  have key : ∀ i, i ≤ x.length → ∀ s : List Int, s.length ≤ i → Evt (fun k => spec_l8Without.l0 k ps s x (x.length : Int) (i : Int)) (s ++ cut (x.drop i) ps) := by
    refine down (P := fun i (s : List Int) => s.length ≤ i → Evt (fun k => spec_l8Without.l0 k ps s x (x.length : Int) (i : Int)) (s ++ cut (x.drop i) ps)) ?_ ?_
    · intro s hs
      refine Evt.step ?_
      simp only [spec_l8Without.l0]
      exact Evt.neg (natNotLt _) ((Evt.ok _).cast (by simp [cut]))
    · intro i hi ih s hs
      refine Evt.step ?_
      simp only [spec_l8Without.l0]
      rw [rdN x i hi, wrapN i _ hi (by omega), dropN x i hi]
      refine Evt.pos (natLt _ _ hi) (Evt.pos (by omega) (Evt.pos (natLt _ _ hi) (Evt.bind (l1Has_ev ps _ hp) ?_)))
      cases h : has ps x[i] with
      | true => exact Evt.pos rfl ((ih s (by omega)).cast (by simp [cut, h, -List.getElem_cons_drop]))
      | false => exact Evt.neg (by decide) (Evt.pos (by omega) ((ih (s ++ [x[i]]) (by simp; omega)).cast (by simp [cut, h, -List.getElem_cons_drop])))
  unfold spec_l8Without.f
  exact (key 0 (Nat.zero_le _) [] (Nat.zero_le _)).cast (by simp)
theorem rising_ext : ∀ (a b : List Int), a.Pairwise (· < ·) → b.Pairwise (· < ·) → (∀ x, x ∈ a ↔ x ∈ b) → a = b
  | [], [], _, _, _ => rfl
  | [], y :: b, _, _, h => absurd ((h y).2 (List.mem_cons_self ..)) (by simp)
  | x :: a, [], _, _, h => absurd ((h x).1 (List.mem_cons_self ..)) (by simp)
  | x :: a, y :: b, ha, hb, h => by
    rw [List.pairwise_cons] at ha hb
    have hxy : x = y := by
      rcases List.mem_cons.1 ((h x).1 (List.mem_cons_self ..)) with e | e
      · exact e
      · rcases List.mem_cons.1 ((h y).2 (List.mem_cons_self ..)) with e' | e'
        · exact e'.symm
        · have := hb.1 x e; have := ha.1 y e'; omega
    subst hxy
    rw [rising_ext a b ha.2 hb.2 (fun z => ?_)]
    constructor
    · intro hz
      rcases List.mem_cons.1 ((h z).1 (List.mem_cons_of_mem _ hz)) with e | e
      · have := ha.1 z hz; omega
      · exact e
    · intro hz
      rcases List.mem_cons.1 ((h z).2 (List.mem_cons_of_mem _ hz)) with e | e
      · have := hb.1 z hz; omega
      · exact e
theorem rising_pairwise {l : List Int} {lo hi : Int} (h : rising l lo hi = true) : l.Pairwise (· < ·) := by
  rw [List.pairwise_iff_getElem]
  intro i j hi hj hij
  exact rising_lt h i j hij hj
theorem picks_pairwise (T : Nat → Bool) (d : Nat) : (picks T 0 d).Pairwise (· < ·) := by
  unfold picks
  rw [List.pairwise_map]
  refine List.Pairwise.imp (fun h => by omega) ((List.pairwise_lt_range' (s := 0) (n := d)).filter _)
theorem mem_picks (T : Nat → Bool) (d : Nat) (x : Int) : x ∈ picks T 0 d ↔ ∃ i : Nat, x = (i : Int) ∧ i < d ∧ T i = true := by
  simp only [picks, List.mem_map, List.mem_filter, List.mem_range'_1]
  constructor
  · rintro ⟨i, ⟨h1, h2⟩, rfl⟩; exact ⟨i, rfl, by omega, h2⟩
  · rintro ⟨i, rfl, h1, h2⟩; exact ⟨i, ⟨by omega, h2⟩, rfl⟩
theorem shr_nat (m i : Nat) (hi : i ≤ 16) : shr .i64 (m : Int) (i : Int) = ((m / 2 ^ i : Nat) : Int) := by
  unfold shr
  rw [Int.toNat_natCast, Nat.min_eq_left (by show i ≤ 64; omega)]
  have e : ((2 : Int) ^ i) = ((2 ^ i : Nat) : Int) := by rw [Int.natCast_pow]; rfl
  rw [e, Int.natCast_ediv]
theorem setOf_ev (m : Nat) (hm : m < 65536) : Evt (fun k => impl_setOf.f k (m : Int)) (picks (fun i => m.testBit i) 0 16) := by
  have key : ∀ i, i ≤ 16 → ∀ s : List Int, s.length ≤ i → Evt (fun k => impl_setOf.l0 k (m : Int) s (i : Int)) (s ++ picks (fun i => m.testBit i) i (16 - i)) := by
    refine down (P := fun i (s : List Int) => s.length ≤ i → Evt (fun k => impl_setOf.l0 k (m : Int) s (i : Int)) (s ++ picks (fun i => m.testBit i) i (16 - i))) ?_ ?_
    · intro s hs
      refine Evt.step ?_
      simp only [impl_setOf.l0]
      rw [shr_nat m 16 (by omega)]
      exact Evt.pos (by omega) (Evt.pos (by omega) ((Evt.ok _).cast (by simp [picks])))
    · intro i hi ih s hs
      obtain ⟨d, hd⟩ : ∃ d, 16 - i = d + 1 := ⟨16 - i - 1, by omega⟩
      have e : picks (fun i => m.testBit i) i (16 - i) = (if m.testBit i then [(i : Int)] else []) ++ picks (fun i => m.testBit i) (i + 1) (16 - (i + 1)) := by
        unfold picks
        rw [hd, List.range'_succ, List.filter_cons, show 16 - (i + 1) = d by omega]
        cases m.testBit i <;> simp
      refine Evt.step ?_
      simp only [impl_setOf.l0]
      rw [shr_nat m i (by omega), wrapN i 16 hi (by omega)]
      refine Evt.pos (by omega) ?_
      by_cases h0 : m / 2 ^ i = 0
      · refine Evt.pos (by omega) ((Evt.ok _).cast ?_)
        have : picks (fun i => m.testBit i) i (16 - i) = [] := by
          unfold picks
          rw [List.filter_eq_nil_iff.2 ?_]; · rfl
          intro j hj
          have hj' := List.mem_range'_1.1 hj
          have : m < 2 ^ j := Nat.lt_of_lt_of_le ((Nat.div_eq_zero_iff_lt (Nat.two_pow_pos i)).1 h0) (Nat.pow_le_pow_right (by omega) hj'.1)
          rw [Nat.testBit_lt_two_pow this]; decide
        rw [this]; simp
      · have hlt : m / 2 ^ i < 65536 := Nat.lt_of_le_of_lt (Nat.div_le_self _ _) hm
        refine Evt.neg (by omega) ?_
        have hb : Go.bits .and .i64 ((m / 2 ^ i : Nat) : Int) 1 = ((m / 2 ^ i &&& 1 : Nat) : Int) := and_n _ 1 (by omega) (by omega)
        rw [hb, Nat.and_one_is_mod]
        have ht : m.testBit i = decide (m / 2 ^ i % 2 = 1) := Nat.testBit_eq_decide_div_mod_eq
        rw [e]
        by_cases h1 : m / 2 ^ i % 2 = 1
        · rw [ht, decide_eq_true h1]
          exact Evt.pos (by omega) (Evt.pos (by omega) ((ih (s ++ [(i : Int)]) (by simp; omega)).cast (by simp)))
        · rw [ht, decide_eq_false h1]
          exact Evt.neg (by omega) ((ih s (by omega)).cast (by simp))
  unfold impl_setOf.f
  exact (key 0 (Nat.zero_le _) [] (Nat.zero_le _)).cast (by simp)
theorem picks_mask (y : List Int) (hy : ∀ q ∈ y, 0 ≤ q ∧ q < 16) (hr : y.Pairwise (· < ·)) : picks (fun i => (mask y).testBit i) 0 16 = y := by
  refine rising_ext _ _ (picks_pairwise _ _) hr (fun x => ?_)
  rw [mem_picks]
  constructor
  · rintro ⟨i, rfl, _, h⟩
    rw [mask_bit y (fun q hq => (hy q hq).1)] at h
    exact of_decide_eq_true h
  · intro hx
    have h := hy x hx
    refine ⟨x.toNat, by omega, by omega, ?_⟩
    rw [mask_bit y (fun q hq => (hy q hq).1), show ((x.toNat : Nat) : Int) = x by omega]
    exact decide_eq_true hx
end Go.Proofs.Ytffdacmdgfpnmaa.Lib
