import Derived.Test.YtbkjgnfnjgebiaaF2
import Derived.Test.YtbkjgnfnjgebiaaF5
import Derived.Test.YtbkjgnfnjgebiaaInts
namespace Go.Proofs.Ytbkjgnfnjgebiaa.Lib
open Go.RowKit Go.Proofs.Ytbkjgnfnjgebiaa.F Go.Proofs.YtbkjgnfnjgebiaaW.PrintWords Go.Proofs.YtbkjgnfnjgebiaaW.PrintLast Go.Proofs.YtbkjgnfnjgebiaaW.PrintMore
def lexL:List Int→List Int→Int
  | [],[]=>0
  | [],_ :: _=>-1
  | _ :: _,[]=>1
  | x :: a,y :: b=>if x<y then -1 else if x > y then 1 else lexL a b
theorem lexL_nil_left (b:List Int):lexL [] b=if 0<b.length then -1 else 0:=by cases b <;> rfl
theorem cmpInt_eq (x y:Int):cmp_Compare_int.f x y=some (if x<y then -1 else if x > y then 1 else 0):=by
  unfold cmp_Compare_int.f cmp_isNaN_int.f
  simp only [bne_self_eq_false,Option.bind_some,Bool.false_eq_true,if_false]
  split
  · rfl
  · split <;> rfl
theorem slicesCompare_ev (a b:List Int) (ha:Short a):Evt (fun k=>slices_Compare_int_int.f k a b) (lexL a b):=by
  have ha' : a.length≤17592186044415:=ha
  have key:∀ i,i≤a.length → ∀ _:Unit,i≤b.length→Evt (fun k=>slices_Compare_int_int.l0 k a b a (a.length:Int) (i:Int)) (lexL (a.drop i) (b.drop i)):=by
    refine down (P:=fun i _=>i≤b.length→Evt (fun k=>slices_Compare_int_int.l0 k a b a (a.length:Int) (i:Int)) (lexL (a.drop i) (b.drop i))) ?_ ?_
    · intro _ hb
      refine Evt.step ?_
      simp only [slices_Compare_int_int.l0]
      refine Evt.neg (natNotLt _) ?_
      rw [List.drop_length,lexL_nil_left,List.length_drop]
      by_cases h:a.length<b.length
      · exact Evt.pos (by omega) ((Evt.ok _).cast (if_pos (by omega)).symm)
      · exact Evt.neg (by omega) ((Evt.ok _).cast (if_neg (by omega)).symm)
    · intro i hi ih _ hb
      refine Evt.step ?_
      simp only [slices_Compare_int_int.l0]
      refine Evt.pos (natLt _ _ hi) (Evt.pos (by omega) (Evt.pos (natLt _ _ hi) ?_))
      by_cases h:i<b.length
      · refine Evt.neg (by omega) (Evt.pos (by omega) ?_)
        rw [rdN a i hi,rdN b i h,wrapN i _ hi (by omega),dropN a i hi,dropN b i h]
        refine Evt.bind0 (cmpInt_eq _ _) ?_
        show Evt _ (if a[i]<b[i] then -1 else if a[i] > b[i] then 1 else lexL (a.drop (i+1)) (b.drop (i+1)))
        by_cases h1:a[i]<b[i]
        · rw [if_pos h1,if_pos h1];exact Evt.neg (by decide) (Evt.ok _)
        · rw [if_neg h1,if_neg h1]
          by_cases h2:a[i] > b[i]
          · rw [if_pos h2,if_pos h2];exact Evt.neg (by decide) (Evt.ok _)
          · rw [if_neg h2,if_neg h2];exact Evt.pos rfl (ih () (by omega))
      · obtain rfl:i=b.length:=by omega
        rw [dropN a b.length hi,List.drop_length]
        exact Evt.pos (by omega) (Evt.ok _)
  unfold slices_Compare_int_int.f
  exact key 0 (Nat.zero_le _) () (Nat.zero_le _)
theorem l1Compare_ev (a b:List Int) (ha:Short a) (hab:a.length=b.length):Evt (fun k=>spec_l1Compare.f k a b) (lexL a b):=by
  have ha' : a.length≤17592186044415:=ha
  have key:∀ i,i≤a.length → ∀ _:Unit,Evt (fun k=>spec_l1Compare.l0 k a b (a.length:Int) (i:Int)) (lexL (a.drop i) (b.drop i)):=by
    refine down (P:=fun i _=>Evt (fun k=>spec_l1Compare.l0 k a b (a.length:Int) (i:Int)) (lexL (a.drop i) (b.drop i))) ?_ ?_
    · intro _
      refine Evt.step ?_
      simp only [spec_l1Compare.l0]
      exact Evt.neg (natNotLt _) ((Evt.ok _).cast (by rw [List.drop_length,hab,List.drop_length];rfl))
    · intro i hi ih _
      refine Evt.step ?_
      simp only [spec_l1Compare.l0]
      have h:i<b.length:=by omega
      refine Evt.pos (natLt _ _ hi) (Evt.pos (by omega) (Evt.pos (natLt _ _ hi) (Evt.pos (by omega) ?_)))
      rw [rdN a i hi,rdN b i h,wrapN i _ hi (by omega),dropN a i hi,dropN b i h]
      show Evt _ (if a[i]<b[i] then -1 else if a[i] > b[i] then 1 else lexL (a.drop (i+1)) (b.drop (i+1)))
      by_cases h1:a[i]<b[i]
      · rw [if_pos h1];exact Evt.pos h1 (Evt.ok _)
      · rw [if_neg h1]
        refine Evt.neg h1 ?_
        by_cases h2:a[i] > b[i]
        · rw [if_pos h2];exact Evt.pos h2 (Evt.ok _)
        · rw [if_neg h2];exact Evt.neg h2 (ih ())
  unfold spec_l1Compare.f
  exact key 0 (Nat.zero_le _) ()
end Go.Proofs.Ytbkjgnfnjgebiaa.Lib
