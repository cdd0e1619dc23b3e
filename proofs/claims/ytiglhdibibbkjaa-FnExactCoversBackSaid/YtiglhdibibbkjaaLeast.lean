import Derived.Test.YtiglhdibibbkjaaT
import Derived.Test.YtiglhdibibbkjaaOpens
import Derived.Test.YtiglhdibibbkjaaProg
import Derived.Shelf.SlicesE.Clone
import Derived.Shelf.SlSortCmp.NoneTotal
import Derived.Shelf.RegionOpenPlain
import Derived.Deep.LoopGhost
import Derived.Deep.Draws
import Derived.Lib.Walk
import Derived.Lib.SlicesCompact
import Derived.Sort.OwnSortedInts
import Derived.Sort.WalkA
import Derived.Lib.SlicesDelete
import Derived.Lib.SliceRun
namespace Go.Proofs.Ytiglhdibibbkjaa.Least
open Go.Shelf Go.RowKit Go.Lib Go.Sort Go.Proofs.YtiglhdibibbkjaaW.PrintWords
/-! Lists of whole numbers in order: the library's slices.Compare. -/
def lexCmp : List Int → List Int → Int
  | [], [] => 0
  | [], _ :: _ => -1
  | _ :: _, [] => 1
  | a :: x, b :: y => if a < b then -1 else if b < a then 1 else lexCmp x y
theorem lexCmp_self : ∀ x, lexCmp x x = 0
  | [] => rfl
  | a :: x => by simp only [lexCmp]; rw [if_neg (by omega), if_neg (by omega)]; exact lexCmp_self x
theorem lexCmp_neg : ∀ x y, lexCmp y x = - lexCmp x y
  | [], [] => rfl
  | [], _ :: _ => rfl
  | _ :: _, [] => rfl
  | a :: x, b :: y => by
    simp only [lexCmp]
    rcases Int.lt_trichotomy a b with h | h | h
    · rw [if_neg (by omega), if_pos h, if_pos h]; rfl
    · subst h; simp only [Int.lt_irrefl, if_false]; exact lexCmp_neg x y
    · rw [if_pos h, if_neg (by omega), if_pos h]
theorem lexCmp_eq : ∀ x y, lexCmp x y = 0 → x = y
  | [], [], _ => rfl
  | [], _ :: _, h => by simp only [lexCmp] at h; omega
  | _ :: _, [], h => by simp only [lexCmp] at h; omega
  | a :: x, b :: y, h => by
    simp only [lexCmp] at h
    rcases Int.lt_trichotomy a b with c | c | c
    · rw [if_pos c] at h; omega
    · subst c; rw [if_neg (by omega), if_neg (by omega)] at h; rw [lexCmp_eq x y h]
    · rw [if_neg (by omega), if_pos c] at h; omega
theorem lexCmp_trans : ∀ x y z, lexCmp x y ≤ 0 → lexCmp y z ≤ 0 → lexCmp x z ≤ 0 ∧ (lexCmp x y < 0 ∨ lexCmp y z < 0 → lexCmp x z < 0)
  | [], [], [], _, _ => ⟨by simp only [lexCmp]; omega, fun h => by simp only [lexCmp] at h; omega⟩
  | [], [], _ :: _, _, _ => ⟨by simp only [lexCmp]; omega, fun _ => by simp only [lexCmp]; omega⟩
  | [], _ :: _, [], _, h => by simp only [lexCmp] at h; omega
  | [], _ :: _, _ :: _, _, _ => ⟨by simp only [lexCmp]; omega, fun _ => by simp only [lexCmp]; omega⟩
  | _ :: _, [], _, h, _ => by simp only [lexCmp] at h; omega
  | _ :: _, _ :: _, [], _, h => by simp only [lexCmp] at h; omega
  | a :: x, b :: y, c :: z, h1, h2 => by
    simp only [lexCmp] at h1 h2 ⊢
    rcases Int.lt_trichotomy a b with p | p | p
    · rcases Int.lt_trichotomy b c with q | q | q
      · rw [if_pos (show a < c by omega)]; exact ⟨by omega, fun _ => by omega⟩
      · rw [if_pos (show a < c by omega)]; exact ⟨by omega, fun _ => by omega⟩
      · rw [if_neg (by omega), if_pos q] at h2; omega
    · subst p
      simp only [Int.lt_irrefl, if_false] at h1 ⊢
      rcases Int.lt_trichotomy a c with q | q | q
      · rw [if_pos q]; exact ⟨by omega, fun _ => by omega⟩
      · subst q
        simp only [Int.lt_irrefl, if_false] at h2 ⊢
        exact lexCmp_trans x y z h1 h2
      · rw [if_neg (by omega), if_pos q] at h2; omega
    · rw [if_neg (by omega), if_pos p] at h1; omega
theorem lex_swo : SWO (ltOf lexCmp) where
  irrefl x := by simp [ltOf, lexCmp_self]
  trans x y z h1 h2 := by
    simp only [ltOf, decide_eq_true_eq] at *
    exact (lexCmp_trans x y z (by omega) (by omega)).2 (.inl h1)
  ntrans x y z h1 h2 := by
    simp only [ltOf, decide_eq_false_iff_not] at *
    have e1 := lexCmp_neg x y
    have e2 := lexCmp_neg y z
    have e3 := lexCmp_neg x z
    have := (lexCmp_trans z y x (by omega) (by omega)).1
    omega
theorem lex_anti (x y : List Int) (h1 : ltOf lexCmp x y = false) (h2 : ltOf lexCmp y x = false) : x = y := by
  simp only [ltOf, decide_eq_false_iff_not] at *
  have e := lexCmp_neg x y
  exact lexCmp_eq x y (by omega)
/-- A list of lists in order. -/
def sortL (l : List (List Int)) : List (List Int) := l.mergeSort fun x y => !(ltOf lexCmp y x)
theorem swo_of {α : Type} {f : α → List Int} : SWO (ltOf fun x y => lexCmp (f x) (f y)) where
  irrefl x := lex_swo.irrefl (f x)
  trans x y z h1 h2 := lex_swo.trans (f x) (f y) (f z) h1 h2
  ntrans x y z h1 h2 := lex_swo.ntrans (f x) (f y) (f z) h1 h2
theorem map_get {α : Type} [Inhabited α] (f : α → List Int) (d : Array α) (j : Nat) (h : j < d.size) : (d.map f)[j]! = f d[j]! := by
  rw [getElem!_pos _ j (by simpa using h), getElem!_pos d j h, Array.getElem_map]
theorem sorted_map {α : Type} [Inhabited α] (f : α → List Int) (d d' : Array α) (hp : PermIn 0 d.size d d') (hs : SortedIn (ltOf fun x y => lexCmp (f x) (f y)) 0 d.size d') : d'.toList.map f = sortL (d.toList.map f) := by
  obtain ⟨h1, h2, h3⟩ := hp
  have e := sorted_unique_holds lex_swo lex_anti (d.map f) (d'.map f) ⟨by simpa using h1, fun i hi => by
      have hi' : d.size ≤ i := by simpa using hi
      rw [getElem!_neg _ i (by simp; omega), getElem!_neg _ i (by simp; omega)], by
      have e1 : (d'.map f).extract 0 (d.map f).size = (d'.extract 0 d.size).map f := by simp
      have e2 : (d.map f).extract 0 (d.map f).size = (d.extract 0 d.size).map f := by simp
      rw [e1, e2, Array.toList_map, Array.toList_map]
      exact h3.map f⟩ (fun i j hi hij hj => by
      have hj' : j < d.size := by simpa using hj
      rw [map_get f d' i (by omega), map_get f d' j (by omega)]
      exact hs i j hi hij hj')
  rw [Array.toList_map, Array.toList_map] at e
  exact e
def layClone_ren : Go.Shelf.Ren := ⟨fun | 41 => 77 | n => n, fun | 22 => 22 | 23 => 32 | 4 => 4 | n => n, fun | n => n⟩
theorem layClone : Go.Proofs.SlLaysE0.n41 Try.prog layClone_ren := {
  mixed := by kernel_rfl
  f41 := ⟨Try.f77.name, by decide, Try.func77.trans (congrArg some (by kernel_rfl))⟩
  t4 := Try.underlying4
  a4 := Try.isAgg4
  z4 := Try.sizeOf4
  v4 := Try.zeroValue4
  t22 := Try.underlying22
  a22 := Try.isAgg22
  z22 := Try.sizeOf22
  v22 := Try.zeroValue22 }
def laySort_ren : Go.Shelf.Ren := ⟨fun | 6 => 78 | 15 => 117 | 14 => 116 | 28 => 142 | 29 => 143 | 20 => 134 | 21 => 135 | 22 => 136 | 23 => 137 | 24 => 138 | 25 => 139 | 26 => 140 | 27 => 141 | 46 => 156 | 47 => 157 | 48 => 158 | 49 => 159 | 50 => 160 | 57 => 166 | n => n, fun | 22 => 22 | 24 => 32 | 25 => 100 | 3 => 3 | 39 => 133 | 0 => 0 | 53 => 150 | 55 => 152 | 4 => 4 | 46 => 144 | 45 => 143 | 50 => 48 | 5 => 5 | 9 => 9 | 66 => 159 | 70 => 163 | 76 => 167 | 77 => 168 | n => n, fun | n => n⟩
theorem laySort : Go.Proofs.SlLaysF.n6 Try.prog laySort_ren := {
  mixed := by kernel_rfl
  f6 := ⟨Try.f78.name, by decide, Try.func78.trans (congrArg some (by kernel_rfl))⟩
  f14 := ⟨Try.f116.name, by decide, Try.func116.trans (congrArg some (by kernel_rfl))⟩
  f15 := Try.func117.trans (congrArg some (by kernel_rfl))
  f20 := ⟨Try.f134.name, by decide, Try.func134.trans (congrArg some (by kernel_rfl))⟩
  f21 := ⟨Try.f135.name, by decide, Try.func135.trans (congrArg some (by kernel_rfl))⟩
  f22 := ⟨Try.f136.name, by decide, Try.func136.trans (congrArg some (by kernel_rfl))⟩
  f23 := ⟨Try.f137.name, by decide, Try.func137.trans (congrArg some (by kernel_rfl))⟩
  f24 := ⟨Try.f138.name, by decide, Try.func138.trans (congrArg some (by kernel_rfl))⟩
  f25 := ⟨Try.f139.name, by decide, Try.func139.trans (congrArg some (by kernel_rfl))⟩
  f26 := ⟨Try.f140.name, by decide, Try.func140.trans (congrArg some (by kernel_rfl))⟩
  f27 := ⟨Try.f141.name, by decide, Try.func141.trans (congrArg some (by kernel_rfl))⟩
  f28 := Try.func142.trans (congrArg some (by kernel_rfl))
  f29 := Try.func143.trans (congrArg some (by kernel_rfl))
  f46 := ⟨Try.f156.name, by decide, Try.func156.trans (congrArg some (by kernel_rfl))⟩
  f47 := Try.func157.trans (congrArg some (by kernel_rfl))
  f48 := Try.func158.trans (congrArg some (by kernel_rfl))
  f49 := ⟨Try.f159.name, by decide, Try.func159.trans (congrArg some (by kernel_rfl))⟩
  f50 := ⟨Try.f160.name, by decide, Try.func160.trans (congrArg some (by kernel_rfl))⟩
  f57 := ⟨Try.f166.name, by decide, Try.func166.trans (congrArg some (by kernel_rfl))⟩
  t0 := Try.underlying0
  a0 := Try.isAgg0
  z0 := Try.sizeOf0
  v0 := Try.zeroValue0
  t3 := Try.underlying3
  a3 := Try.isAgg3
  z3 := Try.sizeOf3
  v3 := Try.zeroValue3
  t4 := Try.underlying4
  a4 := Try.isAgg4
  z4 := Try.sizeOf4
  v4 := Try.zeroValue4
  t5 := Try.underlying5
  a5 := Try.isAgg5
  z5 := Try.sizeOf5
  v5 := Try.zeroValue5
  t9 := Try.underlying9
  a9 := Try.isAgg9
  z9 := Try.sizeOf9
  v9 := Try.zeroValue9
  t22 := Try.underlying22
  a22 := Try.isAgg22
  z22 := Try.sizeOf22
  v22 := Try.zeroValue22
  a24 := Try.isAgg32
  z24 := Try.sizeOf32
  t25 := Try.underlying100
  a25 := Try.isAgg100
  z25 := Try.sizeOf100
  v25 := Try.zeroValue100
  t39 := Try.underlying133
  a39 := Try.isAgg133
  z39 := Try.sizeOf133
  v39 := Try.zeroValue133
  t45 := Try.underlying143
  a45 := Try.isAgg143
  z45 := Try.sizeOf143
  v45 := Try.zeroValue143
  t46 := Try.underlying144
  a46 := Try.isAgg144
  z46 := Try.sizeOf144
  v46 := Try.zeroValue144
  t50 := Try.underlying48
  a50 := Try.isAgg48
  z50 := Try.sizeOf48
  v50 := Try.zeroValue48
  t53 := Try.underlying150
  a53 := Try.isAgg150
  z53 := Try.sizeOf150
  v53 := Try.zeroValue150
  t55 := Try.underlying152
  a55 := Try.isAgg152
  z55 := Try.sizeOf152
  v55 := Try.zeroValue152
  t66 := Try.underlying159
  a66 := Try.isAgg159
  z66 := Try.sizeOf159
  v66 := Try.zeroValue159
  t70 := Try.underlying163
  a70 := Try.isAgg163
  z70 := Try.sizeOf163
  v70 := Try.zeroValue163
  t76 := Try.underlying167
  a76 := Try.isAgg167
  z76 := Try.sizeOf167
  v76 := Try.zeroValue167
  t77 := Try.underlying168
  a77 := Try.isAgg168
  z77 := Try.sizeOf168
  v77 := Try.zeroValue168 }
/-! A row's element: its header, and what it holds in the world w (what lies below w's size stays). -/
abbrev Hd (w : World) := {x : Value × List Int // ∃ A c, x.1 = .slice A x.2.length c ∧ x.2.length ≤ c ∧ (Kd.int .i64).C w A x.2.length x.2}
instance hdInh (w : World) : Inhabited (Hd w) := ⟨⟨(.slice none 0 0, []), none, 0, rfl, Nat.le_refl _, Kd.C_nil _ _⟩⟩
def enc {w : World} (x : Hd w) : Value := x.1.1
def con {w : World} (x : Hd w) : List Int := x.1.2
theorem enc_one (w : World) : OneCell (enc : Hd w → Value) := fun x => by
  obtain ⟨A, c, h, _⟩ := x.2
  unfold enc; rw [h]; rfl
theorem heap_put {α : Type} [Inhabited α] (en : α → Value) {w : World} {g n : Nat} {os : Array Obj} {cur : Array Value} {e : TypeId} {fr : Nat × Nat} (d : Array α) (hb : w.heap[g]? = some (.cells cur e fr)) :
    (grow (putRow en (Sort.ahead w n) g 0 d) os).heap[g]? = some (.cells (putCells en 0 d cur) e fr) := by
  have hg : g < w.heap.size := (Array.getElem?_eq_some_iff.1 hb).1
  rw [heap_grow_old _ _ (by simpa using hg)]
  simp [putRow, mapBlock, Sort.ahead, Array.getElem?_modify, hb, onCells]
theorem grownBy_put {α : Type} [Inhabited α] (en : α → Value) {w : World} {g n : Nat} {os : Array Obj} (d : Array α) : w.grownBy (grow (putRow en (Sort.ahead w n) g 0 d) os) (some g) := by
  refine ⟨rfl, rfl, rfl, by simp, fun k hk hne => ?_⟩
  rw [heap_grow_old _ _ (by simpa using hk)]
  have : g ≠ k := fun e => hne (by rw [e])
  simp [putRow, mapBlock, Sort.ahead, Array.getElem?_modify, this]
/-- The world W, in which v is a row of the call's own that holds d's headers. -/
structure St (w W : World) (v : Value) (d : Array (Hd w)) : Prop where
  below : RowKit.Below w.heap.size w W
  few : d.size ≤ 1000000
  form : (d.size = 0 ∧ ∃ A c, v = .slice A 0 c) ∨ ∃ g cap cur, v = .slice (some ⟨g, 0, none⟩) d.size cap ∧ w.heap.size ≤ g ∧ W.heap[g]? = some (.cells cur 32 (0, 0)) ∧ d.size ≤ cap ∧ cap ≤ maxLen ∧ Holds enc W g 0 d ∧ 0 < d.size
theorem hd_mk {w : World} {l : List (List Int)} {A : Option Addr} (h : Kd.C (Kd.slice 3 (Kd.int .i64)) w A l.length l) (hl : 0 < l.length) : ∃ ad, A = some ad ∧ ∃ d : Array (Hd w), d.toList.map con = l ∧ ∀ j (hj : j < d.size), w.cell? (ad.add j) = some (enc d[j]) := by
  obtain ⟨ad, e, hc⟩ := h.2.2 hl
  have key : ∀ j (hj : j < l.length), ∃ x : Hd w, con x = l[j] ∧ w.cell? (ad.add j) = some (enc x) := by
    intro j hj
    obtain ⟨c, hs, ⟨A1, c1, hc1, hl1, hC⟩, hcell⟩ := hc j l[j] (List.getElem?_eq_getElem hj)
    refine ⟨⟨(.slice A1 l[j].length c1, l[j]), A1, c1, rfl, hl1, hC⟩, rfl, ?_⟩
    have := hcell 0 _ (by rw [hc1]; rfl)
    rw [show (Kd.slice 3 (Kd.int .i64)).sz = 1 from rfl, Nat.mul_one, Nat.add_zero] at this
    exact this
  refine ⟨ad, e, Array.ofFn (n := l.length) fun j => (key j.1 j.2).choose, ?_, ?_⟩
  · apply List.ext_getElem
    · simp
    · intro i h1 h2
      simp only [List.getElem_map, Array.getElem_toList, Array.getElem_ofFn]
      exact (key i h2).choose_spec.1
  · intro j hj
    have hj' : j < l.length := by simpa using hj
    rw [Array.getElem_ofFn]
    exact (key j hj').choose_spec.2
theorem infoL : ∃ i0 : TypeInfo, Try.prog.info? 32 = some i0 ∧ i0.zero = some (.slice none 0 0) ∧ i0.size = 1 ∧ i0.bytes = 24 := by
  have h : (Try.prog.info? 32).map (fun i => (i.zero, i.size, i.bytes)) = some (some (.slice none 0 0), 1, 24) := by kernel_rfl
  obtain ⟨i0, h1, h2⟩ := Option.map_eq_some_iff.1 h
  simp only [Prod.mk.injEq] at h2
  exact ⟨i0, h1, h2.1, h2.2.1, h2.2.2⟩
theorem cell_spot (w : World) (b o q : Nat) : w.cell? ⟨b, o, some q⟩ = none := by
  unfold World.cell?
  dsimp only
  split
  · simp
  · rfl
theorem clone_st (hz : ∀ (A : Option Addr) (c : Nat) (w : World), Calls Try.prog 77 #[.slice A 0 c] w fun e W => ∃ A' c', e = .returned (.slice A' 0 c') ∧ RowKit.Below w.heap.size w W) (A0 : Option Addr) (c0 : Nat) (l0 : List (List Int)) (w : World) (hr0 : Kd.C (Kd.slice 3 (Kd.int .i64)) w A0 l0.length l0) (hc0 : l0.length ≤ c0) (hm : l0.length ≤ 1000000) :
    Calls Try.prog 77 #[.slice A0 l0.length c0] w fun e W => ∃ v, ∃ d : Array (Hd w), e = .returned v ∧ St w W v d ∧ d.toList.map con = l0 := by
  by_cases hl : l0.length = 0
  · have e0 : l0 = [] := List.eq_nil_of_length_eq_zero hl
    subst e0
    refine (hz A0 c0 w).mono ?_
    rintro e W ⟨A', c', rfl, hb⟩
    exact ⟨_, #[], rfl, ⟨hb, Nat.zero_le _, .inl ⟨rfl, A', c', rfl⟩⟩, rfl⟩
  · obtain ⟨ad, rfl, d, hd, hcell⟩ := hd_mk hr0 (by omega)
    have hs : d.size = l0.length := by rw [← hd, List.length_map, Array.length_toList]
    obtain ⟨b, off, p⟩ := ad
    have hp : p = none := by
      have h0 := hcell 0 (by omega)
      cases p with
      | none => rfl
      | some q => rw [show (⟨b, off, some q⟩ : Addr).add 0 = ⟨b, off + 0, some q⟩ from rfl, cell_spot] at h0; cases h0
    subst hp
    obtain ⟨i0, hi0, hz0, hz1, hz2⟩ := infoL
    have hcon := AnyE.slices_Clone layClone i0 (.slice none 0 0) 1 24 hi0 hz0 hz1 hz2 rfl (by decide) Try.sizeOf32 b off l0.length c0 (d.toList.map enc) w (by simp [hs]) (by unfold maxLen; omega) (by omega) (by
      intro j u hu
      have hj : j < d.size := by have := (List.getElem?_eq_some_iff.1 hu).1; simpa using this
      have h1 := hcell j hj
      rw [List.getElem?_map, Array.getElem?_toList, Array.getElem?_eq_getElem hj] at hu
      simp only [Option.map_some, Option.some.injEq] at hu
      rw [← hu]
      have e2 : (⟨b, off, none⟩ : Addr).add j = ⟨b, off + j, none⟩ := by simp [Addr.add]
      rw [e2] at h1
      exact h1) (by
      intro u hu
      obtain ⟨x, _, rfl⟩ := List.mem_map.1 hu
      exact enc_one w x)
    refine hcon.mono ?_
    rintro e W ⟨v, rfl, ho, _, hb⟩
    refine ⟨v, d, rfl, ⟨hb, by omega, ?_⟩, hd⟩
    rcases ho.2 with ⟨_, h0⟩ | ⟨g, cap, cur, rfl, hg, hh, hc, hcm, hsz, ht⟩
    · exact absurd h0 hl
    · refine .inr ⟨g, cap, cur, by rw [hs], hg, hh, by omega, hcm, ?_, by omega⟩
      intro j hj
      refine ⟨?_, by simp [World.frozen?, hh]⟩
      have h1 : (cur.toList.take (l0.length * 1))[j]? = (d.toList.map enc)[j]? := by rw [ht]
      rw [List.getElem?_take_of_lt (by omega), List.getElem?_map, Array.getElem?_toList, Array.getElem?_toList, Array.getElem?_eq_getElem hj] at h1
      simp only [World.cell?, hh, Nat.zero_add]
      simp only [Option.isSome_none, Bool.false_eq_true, if_false]
      rw [h1, getElem!_pos d j hj]; rfl
theorem con_C {w W : World} (hb : RowKit.Below w.heap.size w W) (x : Hd w) : ∃ A c, enc x = .slice A (con x).length c ∧ (con x).length ≤ c ∧ (Kd.int .i64).C W A (con x).length (con x) := by
  obtain ⟨A, c, h1, h2, h3⟩ := x.2
  exact ⟨A, c, h1, h2, Kd.C_below h3 hb⟩
def Comp (f : Nat) (P : List Int → List Int → Value) : Prop := ∀ (W : World) (A : Option Addr) (c : Nat) (x : List Int) (A' : Option Addr) (c' : Nat) (y : List Int), (Kd.int .i64).C W A x.length x → x.length ≤ c → (Kd.int .i64).C W A' y.length y → y.length ≤ c' →
    Calls Try.prog f #[.slice A x.length c, .slice A' y.length c'] W fun e W' => e = .returned (P x y) ∧ ∃ q, W' = W.drewN q
theorem comp_at {f : Nat} {P : List Int → List Int → Value} (h : Comp f P) {w W : World} (hb : RowKit.Below w.heap.size w W) (x y : Hd w) : Calls Try.prog f #[enc x, enc y] W fun e W' => e = .returned (P (con x) (con y)) ∧ ∃ q, W' = W.drewN q := by
  obtain ⟨A, c, h1, h2, h3⟩ := con_C hb x
  obtain ⟨A', c', g1, g2, g3⟩ := con_C hb y
  rw [h1, g1]
  exact h W A c _ A' c' _ h3 h2 g3 g2
theorem sort_st (hcmp : Comp 79 fun x y => .int .i64 (lexCmp x y)) {w W : World} {v : Value} {d : Array (Hd w)} (h : St w W v d) :
    Calls Try.prog 78 #[v, .func (.func 79) #[] #[]] W fun e W' => e = .returned (.tuple #[]) ∧ ∃ d' : Array (Hd w), St w W' v d' ∧ d'.toList.map con = sortL (d.toList.map con) := by
  rcases h.form with ⟨h0, A, c, rfl⟩ | ⟨g, cap, cur, rfl, hg, hh, hc, hm, hH, hp⟩
  · have hcon := AnyF.slices_SortFunc_none (P := Try.prog) (ρ := laySort_ren) { laySort with } A c (.func (.func 79) #[] #[]) W
    refine hcon.mono ?_
    rintro e W' ⟨rfl, rfl⟩
    have e0 : d = #[] := Array.eq_empty_of_size_eq_zero h0
    subst e0
    exact ⟨rfl, #[], h, by simp [sortL]⟩
  · have hgw : g < W.heap.size := (Array.getElem?_eq_some_iff.1 hh).1
    have hbw := h.below
    have hw : ∀ (m : Nat) (os : Array Obj) (dk : Array (Hd w)), RowKit.Below w.heap.size w (sortWorld enc W g 0 m dk os) := fun m os dk => RowKit.Below.grown hbw (grownBy_put enc dk) hbw.size (fun k e => by injection e with e; omega)
    have hcon := Any.slices_SortFunc laySort (enc : Hd w → Value) (enc_one w) (fun x y => lexCmp (con x) (con y)) swo_of 79 #[] g 0 cap d W (enters_of Try.func79 (by kernel_rfl) rfl) (CmpReads.lays fun m os dk hs x y => comp_at hcmp (hw m os dk) x y) hH hgw (by have := h.few; omega)
    refine hcon.mono ?_
    rintro e W' ⟨rfl, d', n, os, hp', hs', rfl⟩
    have hsz : d'.size = d.size := hp'.1
    refine ⟨rfl, d', ⟨hw n os d', by have := h.few; omega, .inr ⟨g, cap, _, by rw [hsz], hg, heap_put enc d' hh, by omega, hm, ?_, by omega⟩⟩, sorted_map con d d' hp' hs'⟩
    exact holds_grow enc _ os g 0 d' (by simpa using hgw) (holds_putRow enc _ g 0 d d' (holds_ahead enc W n g 0 d hH) hsz)
theorem add_at (g j : Nat) : (⟨g, 0, none⟩ : Addr).add j = ⟨g, 0 + j, none⟩ := by
  unfold Addr.add
  split
  · rename_i h; subst h; rfl
  · rfl
theorem C_of_holds {w W : World} {g : Nat} {d : Array (Hd w)} (hb : RowKit.Below w.heap.size w W) (hH : Holds enc W g 0 d) (m : Nat) (hm : m ≤ d.size) (hn : d.size ≤ 1000000) (l : List (List Int)) (hl : l = (d.toList.take m).map con) : (Kd.slice 3 (Kd.int .i64)).C W (some ⟨g, 0, none⟩) l.length l := by
  have hll : l.length = m := by rw [hl, List.length_map, List.length_take, Array.length_toList]; omega
  refine ⟨rfl, by omega, fun _ => ⟨_, rfl, fun j p hp => ?_⟩⟩
  have hj : j < m := by have := (List.getElem?_eq_some_iff.1 hp).1; omega
  have hp2 : p = con d[j]! := by
    rw [hl, List.getElem?_map, List.getElem?_take_of_lt hj, Array.getElem?_toList, Array.getElem?_eq_getElem (by omega)] at hp
    rw [getElem!_pos d j (by omega)]
    exact (Option.some.inj hp).symm
  obtain ⟨A, c, h1, h2, h3⟩ := con_C hb d[j]!
  refine ⟨[.slice A p.length c], rfl, ⟨A, c, rfl, by rw [hp2]; exact h2, by rw [hp2]; exact h3⟩, fun i u hu => ?_⟩
  have hi : i = 0 := by have := (List.getElem?_eq_some_iff.1 hu).1; simpa using this
  subst hi
  have hu' : Value.slice A p.length c = u := by simpa using hu
  rw [← hu', hp2, ← h1, show (Kd.slice 3 (Kd.int .i64)).sz = 1 from rfl, Nat.mul_one, Nat.add_zero, add_at]
  exact (hH j (by omega)).1
theorem compact_take {d : Array (List Int)} {m k : Nat} {dk : Array (List Int)} (h : CompInv d m k dk) (hk : k ≤ dk.size) : compactUpTo d m = dk.toList.take k := by
  apply List.ext_getElem?
  intro j
  by_cases hj : j < k
  · rw [h.low j hj, List.getElem?_take_of_lt hj, Array.getElem?_toList, Array.getElem?_eq_getElem (by omega), getElem!_pos dk j (by omega)]
  · rw [List.getElem?_eq_none (by rw [h.len]; omega), List.getElem?_take_eq_none (by omega)]
theorem map_set {α : Type} (f : α → List Int) (d : Array α) (i : Nat) (x : α) : (d.setIfInBounds i x).map f = (d.map f).setIfInBounds i (f x) := by
  apply Array.ext_getElem?
  intro j
  simp only [Array.getElem?_map, Array.getElem?_setIfInBounds, Array.size_map]
  by_cases h : i = j
  · subst h
    by_cases h2 : i < d.size
    · simp [h2]
    · simp [h2]
  · simp [h]
theorem lay_take {α : Type} (xs : List α) (d : Array α) (k : Nat) (h : k + xs.length ≤ d.size) : (lay d k xs).toList.take k = d.toList.take k := by
  apply List.ext_getElem?
  intro j
  by_cases hj : j < k
  · rw [List.getElem?_take_of_lt hj, List.getElem?_take_of_lt hj, Array.getElem?_toList, Array.getElem?_toList, lay_get? xs d k j h, if_neg (by omega)]
  · rw [List.getElem?_take_eq_none (by omega), List.getElem?_take_eq_none (by omega)]
/-- What CompactFunc answers: the row of the lists, each once. -/
structure Cpt (w : World) (d : Array (Hd w)) (e : Ending) (W' : World) : Prop where
  out : ∃ A c, ∃ l : List (List Int), l = Lib.compact (d.toList.map con) ∧ e = .returned (.slice A l.length c) ∧ (Kd.slice 3 (Kd.int .i64)).C W' A l.length l ∧ l.length ≤ c ∧ RowKit.Below w.heap.size w W'
set_option maxHeartbeats 8000000 in
set_option maxRecDepth 1000000 in
theorem compact_st (heq : Comp 81 fun x y => .bool (decide (x = y))) {w W : World} {v : Value} {d : Array (Hd w)} (h : St w W v d) :
    Calls Try.prog 80 #[v, .func (.func 81) #[] #[]] W fun e W' => Cpt w d e W' := by
  have mixed := layClone.mixed
  have eg : ∀ args w, (callFunc 81 args).run Try.prog w = .ok (.enter 81 args) w := enters_of Try.func81 (by kernel_rfl) rfl
  have hcl0 := (enc_one w).cells
  simp only [Value.cells] at hcl0
  have hst := (enc_one w).store Try.prog
  have hbel := h.below
  have hfew := h.few
  rcases h.form with ⟨h0, A, c, rfl⟩ | ⟨gb, cap, cur, rfl, hg, hh, hc, hm, hH, hp⟩
  · have e0 : d = #[] := Array.eq_empty_of_size_eq_zero h0
    subst e0
    clear h
    go_enter Try.func80, Try.ntmps80
    go_wp2
    go_ret
    refine ⟨?_⟩
    exact ⟨A, c, [], rfl, rfl, ⟨rfl, by simp, fun h => absurd h (by simp)⟩, Nat.zero_le _, hbel⟩
  have hdc : (d.map con).size = d.size := by simp
  have hlc : Lib.compact (d.toList.map con) = compactUpTo (d.map con) d.size := by
    unfold Lib.compact
    rw [List.length_map, Array.length_toList, ← Array.toList_map, Array.toArray_toList]
  by_cases h2 : d.size < 2
  · have hl : Lib.compact (d.toList.map con) = (d.toList.take d.size).map con := by
      rw [List.take_of_length_le (by simp)]
      exact compact_all _ (fun j hj => keeps_lt_one _ j (by simp at hj; omega))
    have hC := Aside0.mk (C_of_holds hbel hH d.size (Nat.le_refl _) hfew _ hl)
    have hL : (Lib.compact (d.toList.map con)).length = d.size := by rw [hl]; simp
    have h2z : (d.size : Int) < 2 := by omega
    clear h hH hh
    go_enter Try.func80, Try.ntmps80
    go_wp2
    go_ret
    refine ⟨?_⟩
    exact ⟨_, cap, _, rfl, by rw [hL]; rfl, hC.out, by omega, hbel⟩
  · have HH : Hid (Holds enc W gb 0 d) := hH
    have HE : Hid (∀ (q : Nat) (x y : Hd w) (n : Nat) (dk : Array (Hd w)), Calls Try.prog 81 #[enc x, enc y] (((putRow enc (Sort.ahead W q) gb 0 dk)).drewN n) fun e W' => e = .returned (.bool (decide (con x = con y))) ∧ ∃ q', W' = ((putRow enc (Sort.ahead W q) gb 0 dk).drewN n).drewN q') := fun q x y n dk => by
      have hb : RowKit.Below w.heap.size w (putRow enc (Sort.ahead W q) gb 0 dk) := by
        have h3 := RowKit.Below.grown hbel (grownBy_put enc (g := gb) (n := q) (os := #[]) dk) hbel.size (fun k e => by injection e with e; omega)
        rw [show ∀ W, grow W #[] = W from grow_empty] at h3
        exact h3
      exact comp_at heq (pw_below_drewN hb n) x y
    have h2z : ¬ (d.size : Int) < 2 := by omega
    have HBF : Hid (∀ (q : Nat) (dk : Array (Hd w)), RowKit.Below w.heap.size w (putRow enc (Sort.ahead W q) gb 0 dk)) := fun q dk => by
      have h3 := RowKit.Below.grown hbel (grownBy_put enc (g := gb) (n := q) (os := #[]) dk) hbel.size (fun k e => by injection e with e; omega)
      rw [show ∀ W, grow W #[] = W from grow_empty] at h3
      exact h3
    clear hH h
    go_enter Try.func80, Try.ntmps80
    go_wp2
    go_loopg [5] d.size (fun g s5 wr => ∃ k q : Nat, 1 ≤ k ∧ k ≤ d.size ∧ d.size - k ≤ g ∧ s5 = .int .i64 k ∧ wr = putRow enc (Sort.ahead W q) gb 0 d ∧ ∀ j, j < k → keeps (d.map con) j = true)
    case atStart => exact ⟨1, 0, Nat.le_refl _, by omega, by omega, rfl, (putRow_self enc W gb 0 d HH).symm, keeps_lt_one _⟩
    case round =>
      obtain ⟨k, q, hk1, hk, hgk, rfl, rfl, hall⟩ := hrel
      by_cases hlt : k < d.size
      · have hHk := holds_putRow enc (Sort.ahead W q) gb 0 d d (holds_ahead enc W q gb 0 d HH) rfl
        obtain ⟨kp, rfl⟩ : ∃ kp, k = kp + 1 := ⟨k - 1, by omega⟩
        obtain ⟨c1, f1⟩ := hHk (kp + 1) hlt
        obtain ⟨c0, f0⟩ := hHk kp (by omega)
        clear hHk
        obtain ⟨x, hx⟩ : ∃ x, d[kp + 1]! = x := ⟨_, rfl⟩
        obtain ⟨y, hy⟩ : ∃ y, d[kp]! = y := ⟨_, rfl⟩
        rw [hx] at c1
        rw [hy] at c0
        have hc := fun n => HE q x y n d
        have hwp : IntKind.i64.wrap (kp : Int) = (kp : Int) := by rw [IntKind.wrap_i64]; omega
        have jz : (kp : Int) + 1 < (d.size : Int) := by omega
        have jz1 : (kp : Int) < (d.size : Int) := by omega
        have p0 : (0 : Int) ≤ (kp : Int) + 1 := by omega
        have e0 : ((kp : Int) + 1).toNat = kp + 1 := by omega
        have A : Aside (∀ j, j < kp + 1 → keeps (d.map con) j = true) := hall
        clear hall
        rw [Nat.zero_add] at c1 f1 c0 f0
        generalize hwq : putRow enc (Sort.ahead W q) gb 0 d = wq at c1 c0 f1 f0 hc ⊢
        have hkey : con d[kp + 1]! = con x ∧ con d[kp]! = con y := ⟨by rw [hx], by rw [hy]⟩
        have B : Aside ((d.map con)[kp + 1]! = con x ∧ (d.map con)[kp]! = con y) := ⟨by rw [map_get con d _ hlt]; exact hkey.1, by rw [map_get con d _ (by omega)]; exact hkey.2⟩
        clear hkey hx hy
        by_cases hdup : con x = con y
        · rw [decide_eq_true hdup] at hc
          go_wp2_with fail
          go_quiet_o (first | (go_at_fn 81; refine Calls.quiet_of (hc _)) | (go_at_call 81; refine Calls.quiet_of (hc _)))
          go_wp2_with fail
          have hw2 : wq.drewN nq = putRow enc (Sort.ahead W (q + nq)) gb 0 d := by rw [← hwq, putRow_drewN]
          clear c1 c0 f0 f1 hc
          rw [hw2]
          clear hw2
          go_loopg [5, 7] d.size (fun g s5 s7 wr => ∃ (kk k2 q2 : Nat) (dk : Array (Hd w)), s5 = .int .i64 kk ∧ s7 = .int .i64 ((k2 : Int) + 1) ∧ kp + 1 + (k2 + 1) ≤ d.size ∧ d.size - (kp + 1 + (k2 + 1)) ≤ g ∧ wr = putRow enc (Sort.ahead W q2) gb 0 dk ∧ dk.size = d.size ∧ CompInv (d.map con) (kp + 1 + (k2 + 1)) kk (dk.map con))
          case atStart => exact ⟨kp + 1, 0, q + nq, d, by go_num, by go_num, by omega, by omega, rfl, rfl, CompInv.start A.out (keeps_neg (by omega) (by rw [show kp + 1 - 1 = kp from rfl, B.out.1, B.out.2]; exact hdup))⟩
          case round =>
            obtain ⟨kk, k2, q2, dk, rfl, rfl, hle, hg2, rfl, hds, hI⟩ := hrel
            have hkk := hI.lt
            have hHk : Holds enc (putRow enc (Sort.ahead W q2) gb 0 dk) gb 0 dk := holds_putRow enc (Sort.ahead W q2) gb 0 d dk (holds_ahead enc W q2 gb 0 d HH) hds
            by_cases hlt2 : kp + 1 + (k2 + 1) < d.size
            · obtain ⟨cm, fm⟩ := hHk (kp + 1 + (k2 + 1)) (by omega)
              obtain ⟨cp, fp⟩ := hHk (kp + 1 + k2) (by omega)
              obtain ⟨ck, fk⟩ := hHk kk (by omega)
              have hm1 := hI.high (kp + 1 + (k2 + 1)) (by omega)
              have hm2 := hI.high (kp + 1 + k2) (by omega)
              rw [map_get con dk _ (by omega)] at hm1 hm2
              clear hHk
              obtain ⟨u, hu⟩ : ∃ u, dk[kp + 1 + (k2 + 1)]! = u := ⟨_, rfl⟩
              obtain ⟨v, hv⟩ : ∃ v, dk[kp + 1 + k2]! = v := ⟨_, rfl⟩
              obtain ⟨old, ho⟩ : ∃ x, enc dk[kk]! = x := ⟨_, rfl⟩
              rw [hu] at cm hm1
              rw [hv] at cp hm2
              rw [ho] at ck
              clear hu hv ho
              rw [Nat.zero_add] at cm fm cp fp ck fk
              have hc := fun n => HE q2 u v n dk
              have I2 : Aside (CompInv (d.map con) (kp + 1 + (k2 + 1)) kk (dk.map con)) := hI
              have C : Aside ((d.map con)[kp + 1 + (k2 + 1)]! = con u ∧ (d.map con)[kp + 1 + k2]! = con v) := ⟨hm1.symm, hm2.symm⟩
              clear hI hm1 hm2
              have z1 : (k2 : Int) + 1 < ((d.size - (kp + 1) : Nat) : Int) := by omega
              have z2 : (k2 : Int) < ((d.size - (kp + 1) : Nat) : Int) := by omega
              have z3 : IntKind.i64.wrap (k2 : Int) = (k2 : Int) := by rw [IntKind.wrap_i64]; omega
              have z4 : (0 : Int) ≤ (k2 : Int) + 1 := by omega
              have z5 : ((k2 : Int) + 1).toNat = k2 + 1 := by omega
              have z6 : (kk : Int) < (d.size : Int) := by omega
              generalize hwq2 : putRow enc (Sort.ahead W q2) gb 0 dk = wq2 at cm cp ck fm fp fk hc ⊢
              by_cases huv : con u = con v
              · rw [decide_eq_true huv] at hc
                go_wp2_with fail
                go_quiet_o (first | (go_at_fn 81; refine Calls.quiet_of (hc _)) | (go_at_call 81; refine Calls.quiet_of (hc _)))
                go_wp2_with fail
                go_roundg (d.size - (kp + 1 + (k2 + 1 + 1)))
                case measure => omega
                case rel => exact ⟨kk, k2 + 1, q2 + nq, dk, rfl, by go_num, by omega, Nat.le_refl _, by rw [← hwq2, putRow_drewN], hds, I2.out.skip (keeps_neg (by omega) (by rw [show kp + 1 + (k2 + 1) - 1 = kp + 1 + k2 from rfl, C.out.1, C.out.2]; exact huv))⟩
              · rw [decide_eq_false huv] at hc
                go_wp2_with fail
                go_quiet_o (first | (go_at_fn 81; refine Calls.quiet_of (hc _)) | (go_at_call 81; refine Calls.quiet_of (hc _)))
                go_wp2_with fail
                go_roundg (d.size - (kp + 1 + (k2 + 1 + 1)))
                case measure => omega
                case rel =>
                  refine ⟨kk + 1, k2 + 1, q2 + nq, dk.setIfInBounds kk u, by go_num, by go_num, by omega, Nat.le_refl _, ?_, by simpa using hds, ?_⟩
                  · rw [← hwq2, putRow_drewN]
                    have hs := putRow_set enc (Sort.ahead W (q2 + nq)) gb 0 dk kk u (by omega)
                    rw [Nat.zero_add] at hs
                    exact hs
                  · have hI := I2.out.keep (by simp; omega) (keeps_pos (by rw [show kp + 1 + (k2 + 1) - 1 = kp + 1 + k2 from rfl, C.out.1, C.out.2]; exact huv))
                    rw [C.out.1, ← map_set] at hI
                    exact hI
            · have hend : kp + 1 + (k2 + 1) = d.size := by omega
              have z1 : ¬ (k2 : Int) + 1 < ((d.size - (kp + 1) : Nat) : Int) := by omega
              have z6 : (kk : Int) ≤ (d.size : Int) := by omega
              have hcl : ∀ ty, (Builtin.clear_ #[22] ty #[.slice (some ⟨gb, kk, none⟩) (d.size - kk) (cap - kk)]).run Try.prog (putRow enc (Sort.ahead W q2) gb 0 dk) = .ok (.tuple #[]) ((putRow enc (Sort.ahead W q2) gb 0 dk).setCells gb kk (List.replicate (d.size - kk) (.slice none 0 0))) :=
                fun ty => Lib.run_clear_slice _ _ _ ty _ Try.underlying22 Try.zeroValue32 rfl rfl gb kk _ _ (by omega) (fun j hj => by have h9 := (hHk (kk + j) (by omega)).1; rw [Nat.zero_add] at h9; rw [h9]; rfl) (fun j hj => by have h9 := (hHk (kk + j) (by omega)).2; rw [Nat.zero_add] at h9; exact h9)
              have HI : Aside (CompInv (d.map con) (kp + 1 + (k2 + 1)) kk (dk.map con)) := hI
              clear hHk hI
              generalize hwq2 : putRow enc (Sort.ahead W q2) gb 0 dk = wq2 at hcl ⊢
              go_wp2
              go_ret
              have hI := HI.out
              rw [hend] at hI
              have hlen := hI.len
              have hW : wq2.setCells gb kk (List.replicate (d.size - kk) (.slice none 0 0)) = putRow enc (Sort.ahead W q2) gb 0 (lay dk kk (List.replicate (d.size - kk) (default : Hd w))) := by
                have h9 := putRow_setCells enc (Sort.ahead W q2) gb 0 (List.replicate (d.size - kk) (default : Hd w)) dk kk (by rw [List.length_replicate]; omega)
                rw [List.map_replicate, Nat.zero_add, hwq2] at h9
                exact h9
              have hls : (lay dk kk (List.replicate (d.size - kk) (default : Hd w))).size = d.size := by rw [lay_size]; exact hds
              have hbf : RowKit.Below w.heap.size w (putRow enc (Sort.ahead W q2) gb 0 (lay dk kk (List.replicate (d.size - kk) (default : Hd w)))) := HBF q2 _
              have hl : Lib.compact (d.toList.map con) = ((lay dk kk (List.replicate (d.size - kk) (default : Hd w))).toList.take kk).map con := by
                rw [hlc, compact_take hI (by simp; omega), lay_take _ _ _ (by rw [List.length_replicate]; omega), Array.toList_map, List.map_take]
              refine ⟨?_⟩
              refine ⟨_, cap, _, rfl, by rw [hlc, hlen]; rfl, ?_, by rw [hlc, hlen]; omega, ?_⟩
              · rw [hW]
                exact C_of_holds hbf (holds_putRow enc (Sort.ahead W q2) gb 0 d _ (holds_ahead enc W q2 gb 0 d HH) hls) kk (by rw [hls]; omega) (by rw [hls]; exact hfew) _ hl
              · rw [hW]; exact hbf
        · rw [decide_eq_false hdup] at hc
          go_wp2_with fail
          go_quiet_o (first | (go_at_fn 81; refine Calls.quiet_of (hc _)) | (go_at_call 81; refine Calls.quiet_of (hc _)))
          go_wp2_with fail
          go_roundg (d.size - (kp + 1 + 1))
          case measure => omega
          case rel =>
            refine ⟨kp + 1 + 1, q + nq, by omega, by omega, Nat.le_refl _, by go_num, by rw [← hwq, putRow_drewN], fun j hj => ?_⟩
            by_cases e : j = kp + 1
            · subst e
              exact keeps_pos (by rw [show kp + 1 - 1 = kp from rfl, B.out.1, B.out.2]; exact hdup)
            · exact A.out j (by omega)
      · have : k = d.size := by omega
        subst this
        have hkz : ¬ (d.size : Int) < (d.size : Int) := by omega
        have hC := HBF q d
        generalize hwq : putRow enc (Sort.ahead W q) gb 0 d = wq at hC ⊢
        go_wp2
        go_ret
        have hl : Lib.compact (d.toList.map con) = (d.toList.take d.size).map con := by
          rw [hlc, compactUpTo_all _ _ hall, ← hdc, range_map_get, Array.toList_map, hdc, List.take_of_length_le (by simp)]
        have hL : (Lib.compact (d.toList.map con)).length = d.size := by rw [hl]; simp
        refine ⟨?_⟩
        refine ⟨_, cap, _, rfl, by rw [hL]; rfl, ?_, by omega, hC⟩
        rw [← hwq]
        exact C_of_holds (HBF q d) (holds_putRow enc (Sort.ahead W q) gb 0 d d (holds_ahead enc W q gb 0 d HH) rfl) d.size (Nat.le_refl _) hfew _ hl
end Go.Proofs.Ytiglhdibibbkjaa.Least
