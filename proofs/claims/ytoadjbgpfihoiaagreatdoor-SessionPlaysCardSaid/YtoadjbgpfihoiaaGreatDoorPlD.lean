/- Texts Plan, PlanB, PlanC, Fork, one behind the other. Conditions: as each says. -/
import Derived.Test.YtoadjbgpfihoiaaGreatDoorPlA
import Derived.Deep.RegionHeld3
import Derived.Defers
set_option linter.unusedVariables false
set_option linter.unusedSimpArgs false
set_option maxHeartbeats 8000000
set_option maxRecDepth 100000
namespace Go.Proofs.YtoadjbgpfihoiaaGreatDoor
open Go.RowKit
section
def anc (md : Region.Mode) (ops : Array Oper) : Nat → Nat → Nat → Bool
 | 0, _, _ => false
 | n + 1, j, i => ((ops[j]?).map fun o => o.after.any fun e => Region.binds md e && (e.on == i || anc md ops n e.on i)).getD false
def needs (md : Region.Mode) (ops : Array Oper) (ls : List Nat) (j : Nat) : Bool := ls.any fun i => i != j && !anc md ops ops.size j i
section
variable {P : Program} {ops : Array Oper} {Q : Exit → Act → World → Prop} {md : Region.Mode} {C : World → Prop} {ls es : List Nat}
def Closed (md : Region.Mode) (ops : Array Oper) (listed : Array Bool) : Prop :=
 ∀ j o, ops[j]? = some o → listed.getD j false = true → ∀ e ∈ o.after, Region.binds md e = true → listed.getD e.on false = true
theorem anc_listed {listed : Array Bool} (hc : Closed md ops listed) : ∀ (n j i : Nat) (o : Oper), ops[j]? = some o → (∀ e ∈ o.after, Region.binds md e = true → listed.getD e.on false = true) → anc md ops n j i = true → listed.getD i false = true
 | 0, _, _, _, _, _, h => by cases h
 | n + 1, j, i, o, ho, hd, h => by
   simp only [anc, ho, Option.map_some, Option.getD_some, Array.any_eq_true'] at h; obtain ⟨e, he, h2⟩ := h; simp only [Bool.and_eq_true, Bool.or_eq_true, beq_iff_eq] at h2; obtain ⟨hb, h3⟩ := h2; have hl := hd e he hb; rcases h3 with h3 | h3
   · rw [← h3]; exact hl
   · cases ho' : ops[e.on]? with
     | none => cases n <;> simp [anc, ho'] at h3
     | some o' => exact anc_listed hc n e.on i o' ho' (hc e.on o' ho' hl) h3
theorem needs_of_ready {listed : Array Bool} (hc : Closed md ops listed) {i j : Nat} (hi : i ∈ ls) (hj : j ∈ Region.ready md ops listed) (hne : j ≠ i) (hl : listed.getD i true = false) : needs md ops ls j = true := by
 obtain ⟨_, o, ho, hall⟩ := mem_ready.1 hj; unfold needs; rw [List.any_eq_true]; refine ⟨i, hi, ?_⟩; simp only [Bool.and_eq_true, bne_iff_ne, ne_eq, Bool.not_eq_true', hne.symm, not_false_eq_true, true_and]; cases ha : anc md ops ops.size j i with
 | false => rfl
 | true =>
   have h1 := anc_listed hc _ j i o ho hall ha
   have hlt : i < listed.size := by
    rcases Nat.lt_or_ge i listed.size with h' | h'
    · exact h'
    · simp [Array.getElem?_eq_none h'] at h1
   simp [hlt] at h1 hl; rw [hl] at h1; cases h1
theorem Closed.list {listed : Array Bool} (hc : Closed md ops listed) {j : Nat} (hj : j ∈ Region.ready md ops listed) : Closed md ops (listed.setIfInBounds j true) := by
 intro k o ho hk e he hb; obtain ⟨_, oj, hoj, hall⟩ := mem_ready.1 hj; by_cases hkj : j = k
 · subst hkj
   rw [hoj] at ho; cases ho; exact getD_set_true (hall e he hb)
 · rw [getD_set_ne false hkj] at hk
   exact getD_set_true (hc k o ho hk e he hb)
def wpAnyT (P : Program) (md : Region.Mode) (ops : Array Oper) (Q : Exit → Act → World → Prop) (C : World → Prop) (ls es : List Nat) : Nat → Array Bool → Act → World → Prop
 | 0, listed, a, w => Region.ready md ops listed = [] ∧ Q .normal a w
 | fuel + 1, listed, a, w =>
   (Region.ready md ops listed = [] → Q .normal a w) ∧
   ∀ i ∈ Region.ready md ops listed, wpOp P ops Q i (fun a' w' => ((es.contains i = false → w' = w) ∧ (needs md ops ls i = true → C w → C w')) ∧ wpAnyT P md ops Q C ls es fuel (listed.setIfInBounds i true) a' w') a w
theorem wpAny_of_T : ∀ (fuel : Nat) (listed : Array Bool) (a : Act) (w : World), wpAnyT P md ops Q C ls es fuel listed a w → wpAny P md ops Q fuel listed a w
 | 0, _, _, _, h => h
 | fuel + 1, _, _, _, h => ⟨h.1, fun i hi => wpOp_mono (fun a' w' h' => wpAny_of_T fuel _ a' w' h'.2) (h.2 i hi)⟩
theorem wpAnyT_first {S : World → Prop} {i : Nat} {oi : Oper} {v : Value} (hi : ops[i]? = some oi) (hsel : ∀ (j : Nat) (o : Oper) cs b, ops[j]? = some o → o.op ≠ .select cs b)
 (hQ : ∀ c a w, Q (.panic c) (a.put oi.dst v) w → Q (.panic c) a w) (hS : ∀ w, (i ∈ ls → C w) → S w) :
 ∀ (fuel : Nat) (listed : Array Bool) (a : Act) (w : World), Closed md ops listed →
   (∀ j oj, ops[j]? = some oj → j ≠ i → listed.getD j true = false → (∀ e ∈ oj.after, Region.binds md e = true → e.on ≠ i) → oi.apart ops oj = true) →
   i ∈ Region.ready md ops listed → YieldsIf P ops S oi v a → (i ∈ ls → C w) →
   wpAnyT P md ops Q C ls es fuel (listed.setIfInBounds i true) (a.put oi.dst v) w → wpAnyT P md ops Q C ls es (fuel + 1) listed a w := by
 intro fuel; induction fuel with
 | zero =>
   intro listed a w hc _ hr hy hC H; refine ⟨fun h => (by rw [h] at hr; cases hr), fun j hj => ?_⟩; by_cases hji : j = i
   · subst hji; exact hy.wpOp hi (hS w hC) ⟨⟨fun _ => rfl, fun _ h => h⟩, H⟩
   · have := ready_mono hj hji
     rw [H.1] at this; cases this
 | succ fuel ih =>
   intro listed a w hc hfree hr hy hC H; refine ⟨fun h => (by rw [h] at hr; cases hr), fun j hj => ?_⟩; by_cases hji : j = i
   · subst hji; exact hy.wpOp hi (hS w hC) ⟨⟨fun _ => rfl, fun _ h => h⟩, H⟩
   · have h1 := H.2 j (ready_mono hj hji)
     obtain ⟨hjun, oj, hoj, hall⟩ := mem_ready.1 hj; have hiun := (mem_ready.1 hr).1
     have hnot : ∀ e ∈ oj.after, Region.binds md e = true → e.on ≠ i := fun e he hb heq => by
      have h1 := hall e he hb; have h0 := hiun; rw [heq] at h1; rcases Nat.lt_or_ge i listed.size with h' | h'
      · simp [h'] at h0 h1; rw [h0] at h1; cases h1
      · simp [Array.getElem?_eq_none h'] at h1
     have h2 := wpOp_putIf hoj (hfree j oj hoj hji hjun hnot) (fun cs b => hsel i oi cs b hi) (fun cs b => hsel j oj cs b hoj) hQ hy h1
     have hfree' : ∀ k ok, ops[k]? = some ok → k ≠ i → (listed.setIfInBounds j true).getD k true = false →
      (∀ e ∈ ok.after, Region.binds md e = true → e.on ≠ i) → oi.apart ops ok = true := fun k ok hk hki hun hno => by
      refine hfree k ok hk hki ?_ hno; by_cases hjk : j = k
      · subst hjk; exact hjun
      · rw [getD_set_ne true hjk] at hun; exact hun
     refine wpOp_mono (fun a' w' h3 => ?_) h2; obtain ⟨hy', hC', hT'⟩ := h3; refine ⟨hC', ?_⟩; refine ih (listed.setIfInBounds j true) a' w' (hc.list hj) hfree' (ready_mono hr (Ne.symm hji)) hy' (fun hls => hC'.2 (needs_of_ready hc hls hj hji hiun) (hC hls)) ?_; rw [Array.setIfInBounds_comm _ _ hji]; exact hT'
theorem wpAnyT_exact {i : Nat} {oi : Oper} {v : Value} {w : World} (hi : ops[i]? = some oi) (hsel : ∀ (j : Nat) (o : Oper) cs b, ops[j]? = some o → o.op ≠ .select cs b)
 (hQ : ∀ c a w, Q (.panic c) (a.put oi.dst v) w → Q (.panic c) a w) (hes : ∀ j ∈ es, anc md ops ops.size j i = true) :
 ∀ (fuel : Nat) (listed : Array Bool) (a : Act), Closed md ops listed →
   (∀ j oj, ops[j]? = some oj → j ≠ i → listed.getD j true = false → (∀ e ∈ oj.after, Region.binds md e = true → e.on ≠ i) → oi.apart ops oj = true) →
   i ∈ Region.ready md ops listed → YieldsIf P ops (fun x => x = w) oi v a →
   wpAnyT P md ops Q C ls es fuel (listed.setIfInBounds i true) (a.put oi.dst v) w → wpAnyT P md ops Q C ls es (fuel + 1) listed a w := by
 intro fuel; induction fuel with
 | zero =>
   intro listed a hc _ hr hy H; refine ⟨fun h => (by rw [h] at hr; cases hr), fun j hj => ?_⟩; by_cases hji : j = i
   · subst hji; exact hy.wpOp hi rfl ⟨⟨fun _ => rfl, fun _ h => h⟩, H⟩
   · have := ready_mono hj hji
     rw [H.1] at this; cases this
 | succ fuel ih =>
   intro listed a hc hfree hr hy H; refine ⟨fun h => (by rw [h] at hr; cases hr), fun j hj => ?_⟩; by_cases hji : j = i
   · subst hji; exact hy.wpOp hi rfl ⟨⟨fun _ => rfl, fun _ h => h⟩, H⟩
   · have h1 := H.2 j (ready_mono hj hji)
     obtain ⟨hjun, oj, hoj, hall⟩ := mem_ready.1 hj; have hiun := (mem_ready.1 hr).1
     have hnot : ∀ e ∈ oj.after, Region.binds md e = true → e.on ≠ i := fun e he hb heq => by
      have h1 := hall e he hb; have h0 := hiun; rw [heq] at h1; rcases Nat.lt_or_ge i listed.size with h' | h'
      · simp [h'] at h0 h1; rw [h0] at h1; cases h1
      · simp [Array.getElem?_eq_none h'] at h1
     have hje : es.contains j = false := by
      cases hje : es.contains j with
      | false => rfl
      | true =>
        have := anc_listed hc _ j i oj hoj hall (hes j (by simpa using hje))
        have hlt : i < listed.size := by
         rcases Nat.lt_or_ge i listed.size with h' | h'
         · exact h'
         · simp [Array.getElem?_eq_none h'] at this
        simp [hlt] at this hiun; rw [hiun] at this; cases this
     have h2 := wpOp_putIf hoj (hfree j oj hoj hji hjun hnot) (fun cs b => hsel i oi cs b hi) (fun cs b => hsel j oj cs b hoj) hQ hy h1
     have hfree' : ∀ k ok, ops[k]? = some ok → k ≠ i → (listed.setIfInBounds j true).getD k true = false →
      (∀ e ∈ ok.after, Region.binds md e = true → e.on ≠ i) → oi.apart ops ok = true := fun k ok hk hki hun hno => by
      refine hfree k ok hk hki ?_ hno; by_cases hjk : j = k
      · subst hjk; exact hjun
      · rw [getD_set_ne true hjk] at hun; exact hun
     refine wpOp_mono (fun a' w' h3 => ?_) h2; obtain ⟨hy', hC', hT'⟩ := h3; have hw := hC'.1 hje; subst hw; refine ⟨hC', ih (listed.setIfInBounds j true) a' (hc.list hj) hfree' (ready_mono hr (Ne.symm hji)) hy' ?_⟩; rw [Array.setIfInBounds_comm _ _ hji]; exact hT'
def forcedOK (md : Region.Mode) (ops : Array Oper) (ls es : List Nat) : Array Bool → List Nat → Bool
 | listed, i :: tl => Region.ready md ops listed == [i] && !needs md ops ls i && es.contains i && forcedOK md ops ls es (listed.setIfInBounds i true) tl
 | listed, [] => Region.ready md ops listed == []
def planOK (md : Region.Mode) (ops : Array Oper) (ls es : List Nat) (tl : List Nat) : Array Bool → List (Nat × Nat) → Bool
 | listed, (k, i) :: r =>
   (if k == 2 then Region.ready md ops listed == [i] && es.contains i else Region.free md ops listed i && (Region.ready md ops listed).contains i && (k == 0 || (k == 1 && ls.contains i) || (k == 3 && es.all fun j => anc md ops ops.size j i))) && planOK md ops ls es tl (listed.setIfInBounds i true) r
 | listed, [] => forcedOK md ops ls es listed tl
def quietV (P : Program) (o : Oper) (a : Act) (S : World → Prop) (K : Act → Prop) : Prop := ∃ v, (∀ w, S w → (execOp a.eval o).run P w = .ok (.value v) w) ∧ K (a.put o.dst v)
def wpPlan (P : Program) (ops : Array Oper) (Q : Exit → Act → World → Prop) (C : World → Prop) (tail : Act → World → Prop) : List (Nat × Oper) → Act → World → Prop
 | [], a, w => tail a w
 | (k, o) :: r, a, w =>
   if Region.wanted o (yielded ops a.tmps) then
    (if k = 0 then quietV P o a (fun _ => True) (fun a' => wpPlan P ops Q C tail r a' w)
     else if k = 1 then quietV P o a C (fun a' => wpPlan P ops Q C tail r a' w)
     else if k = 3 then quietV P o a (fun x => x = w) (fun a' => wpPlan P ops Q C tail r a' w)
     else o.wp P a w (fun a' w' => C w' ∧ wpPlan P ops Q C tail r a' w') Q)
   else wpPlan P ops Q C tail r (a.put o.dst undef) w
def planL (ops : Array Oper) : List (Nat × Nat) → List (Nat × Oper)
 | [] => []
 | (k, i) :: r => match ops[i]? with
   | some o => (k, o) :: planL ops r
   | none => planL ops r
theorem tail_sound : ∀ (tl : List Nat) (tops : List Oper) (fuel : Nat) (listed : Array Bool) (a : Act) (w : World), tl.map (ops[·]?) = tops.map some → forcedOK md ops ls es listed tl = true → tl.length = fuel →
 wpList P ops Q tops a w → wpAnyT P md ops Q C ls es fuel listed a w
 | [], tops, 0, listed, a, w, hm, hp, _, h => by
   obtain rfl : tops = [] := by cases tops with | nil => rfl | cons _ _ => simp at hm
   exact ⟨by simpa [forcedOK] using hp, h⟩
 | i :: tl, [], _, _, _, _, hm, _, _, _ => by simp at hm
 | i :: tl, o :: tops, fuel + 1, listed, a, w, hm, hp, hf, h => by
   simp only [List.map_cons, List.cons.injEq] at hm; simp only [forcedOK, Bool.and_eq_true, beq_iff_eq, Bool.not_eq_true'] at hp; obtain ⟨⟨⟨hr, hn⟩, hei⟩, hp⟩ := hp; refine ⟨fun h0 => (by rw [hr] at h0; cases h0), fun j hj => ?_⟩; rw [hr] at hj; obtain rfl : j = i := by simpa using hj
   unfold wpOp; simp only [hm.1]; unfold wpList at h; have ih := fun a' w' => tail_sound tl tops fuel (listed.setIfInBounds j true) a' w' hm.2 hp (by simpa using hf)
   split
   · rename_i hw
     rw [if_pos hw] at h; exact h.imp (Oper.wp_mono fun a' w' h' => ⟨⟨fun he => (by rw [hei] at he; cases he), fun hn' => (by rw [hn] at hn'; cases hn')⟩, ih a' w' h'⟩) id
   · rename_i hw
     rw [if_neg hw] at h; exact ⟨⟨fun _ => by first | rfl | trivial, fun _ h => h⟩, ih _ _ h⟩
theorem quietV_yields {S : World → Prop} {o : Oper} {a : Act} {K : Act → Prop} (hw : Region.wanted o (yielded ops a.tmps) = true) (h : quietV P o a S K) : ∃ v, YieldsIf P ops S o v a ∧ K (a.put o.dst v) :=
 let ⟨v, h1, h2⟩ := h
 ⟨v, .inl ⟨hw, h1⟩, h2⟩
theorem plan_sound (hs : Region.noSelect ops = true) (hQ : ∀ c a w (o : Oper) v, o ∈ ops → Q (.panic c) (Act.put a o.dst v) w → Q (.panic c) a w) (tl : List Nat) (tops : List Oper) (hm : tl.map (ops[·]?) = tops.map some) :
 ∀ (pl : List (Nat × Nat)) (fuel : Nat) (listed : Array Bool) (a : Act) (w : World), planOK md ops ls es tl listed pl = true → pl.length + tl.length = fuel → Closed md ops listed → C w →
 wpPlan P ops Q C (wpList P ops Q tops) (planL ops pl) a w → wpAnyT P md ops Q C ls es fuel listed a w
 | [], fuel, listed, a, w, hp, hf, _, _, h => tail_sound tl tops fuel listed a w hm (by simpa [planOK] using hp) (by simpa using hf) h
 | (k, i) :: r, 0, _, _, _, _, hf, _, _, _ => by simp at hf
 | (k, i) :: r, fuel + 1, listed, a, w, hp, hf, hc, hC, h => by
   simp only [planOK, Bool.and_eq_true] at hp; obtain ⟨hk, hp⟩ := hp; have hf' : r.length + tl.length = fuel := by simp at hf; omega
   have hready : i ∈ Region.ready md ops listed := by
    split at hk
    · have : Region.ready md ops listed = [i] := by
       simp only [Bool.and_eq_true, beq_iff_eq] at hk; exact hk.1
      rw [this]; simp
    · simp only [Bool.and_eq_true] at hk
      simpa using hk.1.2
   obtain ⟨_, o, ho, _⟩ := mem_ready.1 hready; simp only [planL, ho] at h; unfold wpPlan at h; have ih := fun a' w' hC' h' => plan_sound hs hQ tl tops hm r fuel (listed.setIfInBounds i true) a' w' hp hf' (hc.list hready) hC' h'
   by_cases k2 : k = 2
   · -- what does something: it is alone
     simp only [k2, beq_self_eq_true, if_true, Bool.and_eq_true, beq_iff_eq] at hk; obtain ⟨hk, hei⟩ := hk; refine ⟨fun h0 => (by rw [hk] at h0; cases h0), fun j hj => ?_⟩; rw [hk] at hj; obtain rfl : j = i := by simpa using hj
     unfold wpOp; simp only [ho]; split
     · rename_i hw
       rw [if_pos hw] at h; rw [k2, if_neg (by decide), if_neg (by decide), if_neg (by decide)] at h; exact .inl (Oper.wp_mono (fun a' w' h' => ⟨⟨fun he => (by rw [hei] at he; cases he), fun _ _ => h'.1⟩, ih a' w' h'.1 h'.2⟩) h)
     · rename_i hw
       rw [if_neg hw] at h; exact ⟨⟨fun _ => by first | rfl | trivial, fun _ h => h⟩, ih _ _ hC h⟩
   · have hkf : (k == 2) = false := by simpa using k2
     simp only [hkf, Bool.false_eq_true, if_false, Bool.and_eq_true] at hk; obtain ⟨⟨hfree, _⟩, hls⟩ := hk
     have fin : ∀ (S : World → Prop) (v : Value), (∀ w, (i ∈ ls → C w) → S w) → YieldsIf P ops S o v a → wpPlan P ops Q C (wpList P ops Q tops) (planL ops r) (a.put o.dst v) w → wpAnyT P md ops Q C ls es (fuel + 1) listed a w :=
      fun S v hS hy h' => wpAnyT_first ho (Region.noSelect_spec hs) (fun c a w => hQ c a w o v (Array.mem_of_getElem? ho)) hS fuel listed a w hc (Region.free_spec ho hfree) hready hy (fun _ => hC) (ih _ _ hC h')
     by_cases hw : Region.wanted o (yielded ops a.tmps) = true
     · rw [if_pos hw] at h
       by_cases k0 : k = 0
       · rw [if_pos k0] at h
         obtain ⟨v, hy, h'⟩ := quietV_yields hw h; exact fin _ v (fun _ _ => trivial) hy h'
       · rw [if_neg k0] at h
         have k0' : (k == 0) = false := by simpa using k0
         simp only [k0', Bool.false_or, Bool.or_eq_true, Bool.and_eq_true, beq_iff_eq] at hls; rcases hls with hls | hls
         · have hl : i ∈ ls := by simpa using hls.2
           rw [if_pos hls.1] at h; obtain ⟨v, hy, h'⟩ := quietV_yields hw h; exact fin _ v (fun w h => h hl) hy h'
         · rw [hls.1, if_neg (by decide), if_pos rfl] at h
           obtain ⟨v, hy, h'⟩ := quietV_yields hw h; exact wpAnyT_exact ho (Region.noSelect_spec hs) (fun c a w => hQ c a w o v (Array.mem_of_getElem? ho)) (fun j hj => List.all_eq_true.1 hls.2 j hj) fuel listed a hc (Region.free_spec ho hfree) hready hy (ih _ _ hC h')
     · rw [if_neg hw] at h
       exact fin (fun _ => True) undef (fun _ _ => trivial) (.inr ⟨by simpa using hw, rfl⟩) h
end
section
variable {P : Program} {Q : Exit → Act → World → Prop} {C : World → Prop}
structure Pl (P : Program) (ops : Array Oper) (Q : Exit → Act → World → Prop) (C : World → Prop) (tail : Act → World → Prop) (r : List (Nat × Oper)) (a : Act) (w : World) : Prop where
 out : wpPlan P ops Q C tail r a w
def tailL (ops : Array Oper) (tl : List Nat) : List Oper := tl.filterMap (ops[·]?)
theorem wp_region_plan {id : Nat} {a : Act} {w : World} {l : List Oper} (pl : List (Nat × Nat)) (ls es tl : List Nat) (C : World → Prop) (hm : P.follows .mixedOrders = true) (hs : Region.noSelect l.toArray = true)
 (hp : planOK .any l.toArray ls es tl (Array.replicate l.toArray.size false) pl = true) (hl : pl.length + tl.length = l.toArray.size) (hmap : tl.map (l.toArray[·]?) = (tailL l.toArray tl).map some) (hC : C w.drew)
 (hQ : ∀ c a w d v, Q (.panic c) (Act.put a d v) w → Q (.panic c) a w)
 (h : Pl P l.toArray Q C (wpList P l.toArray Q (tailL l.toArray tl)) (planL l.toArray pl) a w.drew) : (Code.region id l.toArray true).wp P Q a w := by
 refine wp_region_any hm (wpAny_of_T (C := C) (ls := ls) (es := es) _ _ _ _ (plan_sound hs (fun c a w o v _ => hQ c a w o.dst v) tl _ hmap pl _ _ a _ hp hl ?_ hC h.out)); intro j o ho hj; exfalso
 revert hj
 rw [Array.getD_eq_getD_getElem?, Array.getElem?_replicate]; split <;> simp
theorem wp_region_planD {id : Nat} {a : Act} {w : World} {l : List Oper} (pl : List (Nat × Nat)) (ls es tl : List Nat) (C : World → Prop) (hm : P.follows .mixedOrders = true) (hs : Region.noSelect l.toArray = true)
 (hp : planOK .any l.toArray ls es tl (Array.replicate l.toArray.size false) pl = true) (hl : pl.length + tl.length = l.toArray.size) (hmap : tl.map (l.toArray[·]?) = (tailL l.toArray tl).map some) (hC : C w.drew)
 (hQ : ∀ c a w (o : Oper) v, o ∈ l → Q (.panic c) (Act.put a o.dst v) w → Q (.panic c) a w)
 (h : Pl P l.toArray Q C (wpList P l.toArray Q (tailL l.toArray tl)) (planL l.toArray pl) a w.drew) : (Code.region id l.toArray true).wp P Q a w := by
 refine wp_region_any hm (wpAny_of_T (C := C) (ls := ls) (es := es) _ _ _ _ (plan_sound hs (fun c a w o v ho => hQ c a w o v (List.mem_toArray.1 ho)) tl _ hmap pl _ _ a _ hp hl ?_ hC h.out)); intro j o ho hj; exfalso
 revert hj
 rw [Array.getD_eq_getD_getElem?, Array.getElem?_replicate]; split <;> simp
theorem leaves_congr {fn : Func} {t t' : Array Value} {R : Ending → World → Prop} (h : results fn t = results fn t') : ∀ (ds : List Deferred) (u : FrameMode) (w : World), Leaves P fn t R ds u w = Leaves P fn t' R ds u w
 | [], .returning, w => by unfold Leaves; rw [h]
 | [], .panicking _, w => by unfold Leaves; rfl
 | [], .run, w => by unfold Leaves; rfl
 | d :: ds, u, w => by
   have ih := leaves_congr (R := R) h ds; unfold Leaves; simp only [ih]
variable {ops : Array Oper} {tail : Act → World → Prop} {a : Act} {w : World} {r : List (Nat × Oper)} {o : Oper}
theorem plan_nil (h : tail a w) : Pl P ops Q C tail [] a w := ⟨h⟩
theorem plan_pure (hw : Region.wanted o (yielded ops a.tmps) = true)
 (h : ∀ K : Act → Prop, (∀ a, Pl P ops Q C tail r a w → K a) → quietV P o a (fun _ => True) K) : Pl P ops Q C tail ((0, o) :: r) a w := by
 refine ⟨?_⟩; unfold wpPlan; rw [if_pos hw, if_pos rfl]; exact h _ fun _ h => h.out
theorem plan_load (hw : Region.wanted o (yielded ops a.tmps) = true)
 (h : ∀ K : Act → Prop, (∀ a, Pl P ops Q C tail r a w → K a) → quietV P o a C K) : Pl P ops Q C tail ((1, o) :: r) a w := by
 refine ⟨?_⟩; unfold wpPlan; rw [if_pos hw, if_neg (by decide), if_pos rfl]; exact h _ fun _ h => h.out
theorem plan_exact (hw : Region.wanted o (yielded ops a.tmps) = true)
 (h : ∀ K : Act → Prop, (∀ a, Pl P ops Q C tail r a w → K a) → quietV P o a (fun x => x = w) K) : Pl P ops Q C tail ((3, o) :: r) a w := by
 refine ⟨?_⟩; unfold wpPlan; rw [if_pos hw, if_neg (by decide), if_neg (by decide), if_pos rfl]; exact h _ fun _ h => h.out
theorem plan_does (hw : Region.wanted o (yielded ops a.tmps) = true)
 (h : ∀ K : Act → World → Prop, (∀ a w, (C w ∧ Pl P ops Q C tail r a w) → K a w) → o.wp P a w K Q) : Pl P ops Q C tail ((2, o) :: r) a w := by
 refine ⟨?_⟩; unfold wpPlan; rw [if_pos hw, if_neg (by decide), if_neg (by decide), if_neg (by decide)]; exact h _ fun _ _ h => ⟨h.1, h.2.out⟩
theorem plan_skip {k : Nat} (hw : Region.wanted o (yielded ops a.tmps) = false) (h : Pl P ops Q C tail r (a.put o.dst undef) w) : Pl P ops Q C tail ((k, o) :: r) a w := by
 refine ⟨?_⟩; unfold wpPlan; rw [if_neg (by rw [hw]; exact Bool.false_ne_true)]; exact h.out
theorem quiet_move' {S : World → Prop} {K : Act → Prop} (x : Operand) (h : o.op = .move x) (hk : K (a.put o.dst (a.eval x))) : quietV P o a S K :=
 ⟨_, fun w _ => by simp [execOp, h], hk⟩
theorem quiet_assign' {S : World → Prop} {K : Act → Prop} (x : Operand) (h : o.op = .assign x) (hk : K (a.put o.dst (a.eval x))) : quietV P o a S K :=
 ⟨_, fun w _ => by simp [execOp, h], hk⟩
theorem quiet_runX {K : Act → Prop} (v : Value) (h : (execOp a.eval o).run P w = .ok (.value v) w) (hk : K (a.put o.dst v)) : quietV P o a (fun x => x = w) K :=
 ⟨v, fun x hx => by subst hx; exact h, hk⟩
theorem NoPanic.ok {Q : Exit → Act → World → Prop} (h : Q .normal a w) : NoPanic Q .normal a w := h
structure ExtW (w0 : World) where
 w : World
 h : Ext w0 w
def ClsE (w0 : World) : World → Prop := fun W => ∃ y : ExtW w0, W = y.w
theorem ClsE.of {w0 w1 : World} (h : Ext w0 w1) : ClsE w0 w1 := ⟨⟨w1, h⟩, rfl⟩
theorem ClsE.ext {w0 w1 : World} (h : ClsE w0 w1) : Ext w0 w1 := by obtain ⟨y, rfl⟩ := h; exact y.h
theorem quiet_run {S : World → Prop} {K : Act → Prop} (v : Value) (h : ∀ w, S w → (execOp a.eval o).run P w = .ok (.value v) w) (hk : K (a.put o.dst v)) : quietV P o a S K := ⟨v, h, hk⟩
theorem quiet_runE {w0 : World} {K : Act → Prop} (v : Value) (h : ∀ y : ExtW w0, (execOp a.eval o).run P y.w = .ok (.value v) y.w) (hk : K (a.put o.dst v)) : quietV P o a (ClsE w0) K :=
 ⟨v, fun w hw => by obtain ⟨y, rfl⟩ := hw; exact h y, hk⟩
end
structure KeepsW (S : Nat → Prop) (w0 : World) where
 w : World
 h : Keeps S w0 w
def ClsK (S : Nat → Prop) (w0 : World) : World → Prop := fun W => ∃ y : KeepsW S w0, W = y.w
theorem ClsK.of {S : Nat → Prop} {w0 w1 : World} (h : Keeps S w0 w1) : ClsK S w0 w1 := ⟨⟨w1, h⟩, rfl⟩
theorem quiet_runK {P : Program} {o : Oper} {a : Act} {S : Nat → Prop} {w0 : World} {K : Act → Prop} (v : Value) (h : ∀ y : KeepsW S w0, (execOp a.eval o).run P y.w = .ok (.value v) y.w) (hk : K (a.put o.dst v)) : quietV P o a (ClsK S w0) K :=
 ⟨v, fun w hw => by obtain ⟨y, rfl⟩ := hw; exact h y, hk⟩
@[go_sem] theorem KeepsW.cell {S : Nat → Prop} {w0 : World} (y : KeepsW S w0) (b o : Nat) (hb : b < w0.heap.size) (hs : ¬ S b) : y.w.cell? ⟨b, o, none⟩ = w0.cell? ⟨b, o, none⟩ :=
 World.cell?_of_block (w := w0) (a := ⟨b, o, none⟩) (y.h.block b hb hs)
@[go_sem] theorem OneB_eq (x b : Nat) : OneB x b = (b = x) := rfl
@[go_sem] theorem ExtW.cell {w0 : World} (y : ExtW w0) (b o : Nat) (hb : b < w0.heap.size) : y.w.cell? ⟨b, o, none⟩ = w0.cell? ⟨b, o, none⟩ := y.h.reads.1 b o hb
theorem nP : (∀ (a : Act) d v, a.put (some d) v = { a with tmps := a.tmps.setIfInBounds d v }) ∧ (∀ (a : Act) v, a.put none v = a) ∧ (∀ (l : List Value) i v, l.toArray.setIfInBounds i v = (l.set i v).toArray)
 ∧ (∀ (a : Value) l v, (a :: l).set 0 v = v :: l) ∧ ∀ (a : Value) l n v, (a :: l).set (n + 1) v = a :: l.set n v :=
 ⟨fun _ _ _ => rfl, fun _ _ => rfl, fun _ _ _ => by simp, fun _ _ _ => rfl, fun _ _ _ _ => rfl⟩
theorem nE : (∀ (a : Act) t, a.eval (.tmp t) = a.tmps.getD t undef) ∧ (∀ (a : Act) v, a.eval (.const v) = v) ∧ (∀ (a : Act) g, a.eval (.global g) = .pointer (some ⟨g, 0, none⟩)) ∧ (∀ (a : Act) f, a.eval (.func f) = .func (.func f) #[] #[])
 ∧ (∀ (l : List Value) n d, l.toArray.getD n d = l[n]?.getD d) ∧ (∀ (a : Value) l, (a :: l)[0]? = some a) ∧ (∀ (a : Value) l n, (a :: l)[n + 1]? = l[n]?) ∧ ∀ (v d : Value), (some v).getD d = v :=
 ⟨fun _ _ => rfl, fun _ _ => rfl, fun _ _ => rfl, fun _ _ => rfl, fun _ _ _ => by simp [Array.getD_eq_getD_getElem?], fun _ _ => rfl, fun _ _ _ => rfl, fun _ _ => rfl⟩
theorem rgE {P : Program} {Q : Exit → Act → World → Prop} {id : Nat} {a : Act} {w : World} {l : List Oper} (pl : List (Nat × Nat)) (ls es tl : List Nat) (k : Pl P l.toArray Q (ClsE w) (wpList P l.toArray Q (tailL l.toArray tl)) (planL l.toArray pl) a w.drew) (hm : P.follows .mixedOrders = true := by kernel_rfl) (hs : Region.noSelect l.toArray = true := by kernel_rfl)
 (hp : planOK .any l.toArray ls es tl (Array.replicate l.toArray.size false) pl = true := by kernel_rfl) (hl : pl.length + tl.length = l.toArray.size := by exact rfl) (hmap : tl.map (l.toArray[·]?) = (tailL l.toArray tl).map some := by exact rfl) (hQ : ∀ c a w d v, Q (.panic c) (Act.put a d v) w → Q (.panic c) a w := by exact fun _ _ _ d _ h => by cases d <;> exact h) : (Code.region id l.toArray true).wp P Q a w :=
 wp_region_plan pl ls es tl (ClsE w) hm hs hp hl hmap (ClsE.of ((Keeps.refl _ _).drew)) hQ k
theorem rgK {P : Program} {Q : Exit → Act → World → Prop} {id : Nat} {a : Act} {w : World} {l : List Oper} (S : Nat → Prop) (pl : List (Nat × Nat)) (ls es tl : List Nat) (k : Pl P l.toArray Q (ClsK S w) (wpList P l.toArray Q (tailL l.toArray tl)) (planL l.toArray pl) a w.drew) (hm : P.follows .mixedOrders = true := by kernel_rfl) (hs : Region.noSelect l.toArray = true := by kernel_rfl)
 (hp : planOK .any l.toArray ls es tl (Array.replicate l.toArray.size false) pl = true := by kernel_rfl) (hl : pl.length + tl.length = l.toArray.size := by exact rfl) (hmap : tl.map (l.toArray[·]?) = (tailL l.toArray tl).map some := by exact rfl) (hQ : ∀ c a w d v, Q (.panic c) (Act.put a d v) w → Q (.panic c) a w := by exact fun _ _ _ d _ h => by cases d <;> exact h) : (Code.region id l.toArray true).wp P Q a w :=
 wp_region_plan pl ls es tl (ClsK S w) hm hs hp hl hmap (ClsK.of ((Keeps.refl _ _).drew)) hQ k
end
def anc2 (md : Region.Mode) (ops : Array Oper) (n j i : Nat) : Bool := (List.range (n + 1)).any fun d => anc md ops d j i
def needs2 (md : Region.Mode) (ops : Array Oper) (ls : List Nat) (j : Nat) : Bool := ls.any fun i => i != j && !anc2 md ops ops.size j i
def forcedOK2 (md : Region.Mode) (ops : Array Oper) (ls es : List Nat) : Array Bool → List Nat → Bool
 | listed, i :: tl => Region.ready md ops listed == [i] && !needs2 md ops ls i && es.contains i && forcedOK2 md ops ls es (listed.setIfInBounds i true) tl
 | listed, [] => Region.ready md ops listed == []
def planOK2 (md : Region.Mode) (ops : Array Oper) (ls es : List Nat) (tl : List Nat) : Array Bool → List (Nat × Nat) → Bool
 | listed, (k, i) :: r =>
   (if k == 2 then Region.ready md ops listed == [i] && es.contains i else Region.free md ops listed i && (Region.ready md ops listed).contains i && (k == 0 || (k == 1 && ls.contains i) || (k == 3 && es.all fun j => anc2 md ops ops.size j i))) && planOK2 md ops ls es tl (listed.setIfInBounds i true) r
 | listed, [] => forcedOK2 md ops ls es listed tl
theorem anc_succ {md : Region.Mode} {ops : Array Oper} : ∀ n j i, anc md ops n j i = true → anc md ops (n + 1) j i = true
 | 0, j, i, h => by cases h
 | n + 1, j, i, h => by
   unfold anc at h ⊢; cases ho : ops[j]? with
   | none => rw [ho] at h; cases h
   | some o =>
     rw [ho] at h; simp only [Option.map_some, Option.getD_some, Array.any_eq_true', Bool.and_eq_true, Bool.or_eq_true] at h ⊢; obtain ⟨e, he, hb, h1⟩ := h; exact ⟨e, he, hb, h1.imp id (anc_succ n _ _)⟩
theorem anc_le {md : Region.Mode} {ops : Array Oper} {d n j i : Nat} (h : d ≤ n) (ha : anc md ops d j i = true) : anc md ops n j i = true := by
 induction h with
 | refl => exact ha
 | step _ ih => exact anc_succ _ _ _ ih
theorem anc2_anc {md : Region.Mode} {ops : Array Oper} {n j i : Nat} (h : anc2 md ops n j i = true) : anc md ops n j i = true := by
 unfold anc2 at h; obtain ⟨d, hd, h1⟩ := List.any_eq_true.1 h; exact anc_le (Nat.lt_succ_iff.1 (List.mem_range.1 hd)) h1
theorem needs2_not {md : Region.Mode} {ops : Array Oper} {ls : List Nat} {j : Nat} (h : (!needs2 md ops ls j) = true) : (!needs md ops ls j) = true := by
 unfold needs2 at h; unfold needs; rw [Bool.not_eq_true', List.any_eq_false] at h ⊢; intro i hi h1; refine h i hi ?_; rw [Bool.and_eq_true, Bool.not_eq_true'] at h1 ⊢; refine ⟨h1.1, ?_⟩; cases h2 : anc2 md ops ops.size j i with
 | false => rfl
 | true => have := anc2_anc h2; rw [h1.2] at this; cases this
theorem forced2 {md : Region.Mode} {ops : Array Oper} {ls es : List Nat} : ∀ (tl : List Nat) (d : Array Bool), forcedOK2 md ops ls es d tl = true → forcedOK md ops ls es d tl = true
 | [], d, h => h
 | i :: tl, d, h => by
   unfold forcedOK2 at h; unfold forcedOK; rw [Bool.and_eq_true, Bool.and_eq_true, Bool.and_eq_true] at h ⊢; exact ⟨⟨⟨h.1.1.1, needs2_not h.1.1.2⟩, h.1.2⟩, forced2 tl _ h.2⟩
theorem plan2 {md : Region.Mode} {ops : Array Oper} {ls es tl : List Nat} : ∀ {pl : List (Nat × Nat)} {d : Array Bool}, planOK2 md ops ls es tl d pl = true → planOK md ops ls es tl d pl = true
 | [], d, h => forced2 tl d h
 | (k, i) :: r, d, h => by
   unfold planOK2 at h; unfold planOK; rw [Bool.and_eq_true] at h ⊢; refine ⟨?_, plan2 h.2⟩; have h1 := h.1; by_cases hk : (k == 2) = true
   · rw [if_pos hk] at h1 ⊢; exact h1
   · rw [if_neg hk] at h1 ⊢
     rw [Bool.and_eq_true] at h1 ⊢; refine ⟨h1.1, ?_⟩; have h2 := h1.2; rw [Bool.or_eq_true] at h2 ⊢; refine h2.imp id fun h3 => ?_
     rw [Bool.and_eq_true, List.all_eq_true] at h3 ⊢; exact ⟨h3.1, fun j hj => anc2_anc (h3.2 j hj)⟩
section
def mStep (md : Region.Mode) (ms : List Nat) (j : Nat) (acc : Nat) (e : Edge) : Nat := if Region.binds md e && Nat.blt e.on j then Nat.lor acc (Nat.lor (Nat.shiftLeft 1 e.on) (ms.getD e.on 0)) else acc
def masksOK (md : Region.Mode) (ops : Array Oper) (ms : List Nat) : Bool :=
 (List.range ops.size).all fun j => match ops[j]? with | some o => Nat.beq (ms.getD j 0) (o.after.toList.foldl (mStep md ms j) 0) | none => true
def anc3 (ms : List Nat) (j i : Nat) : Bool := (ms.getD j 0).testBit i
theorem step_bit {md : Region.Mode} {ms : List Nat} {j i : Nat} : ∀ (l : List Edge) (acc : Nat), (l.foldl (mStep md ms j) acc).testBit i = true → acc.testBit i = true ∨ ∃ e ∈ l, Region.binds md e = true ∧ e.on < j ∧ (e.on = i ∨ (ms.getD e.on 0).testBit i = true)
 | [], acc, h => .inl h
 | e :: l, acc, h => by
   rw [List.foldl_cons] at h; rcases step_bit l _ h with h1 | ⟨e', h1, h2⟩
   · unfold mStep at h1
     by_cases hc : (Region.binds md e && Nat.blt e.on j) = true
     · rw [if_pos hc] at h1
       rw [Bool.and_eq_true] at hc; have hlt : e.on < j := by simpa using hc.2
       change (acc ||| ((1 <<< e.on) ||| ms.getD e.on 0)).testBit i = true at h1
       rw [Nat.testBit_or, Nat.testBit_or, Bool.or_eq_true, Bool.or_eq_true] at h1; rcases h1 with h1 | h1 | h1
       · exact .inl h1
       · refine .inr ⟨e, List.mem_cons_self, hc.1, hlt, .inl ?_⟩
         rw [Nat.one_shiftLeft, Nat.testBit_two_pow] at h1; simpa using h1
       · exact .inr ⟨e, List.mem_cons_self, hc.1, hlt, .inr h1⟩
     · rw [if_neg hc] at h1
       exact .inl h1
   · exact .inr ⟨e', List.mem_cons_of_mem _ h1, h2⟩
theorem mask_anc {md : Region.Mode} {ops : Array Oper} {ms : List Nat} (hm : masksOK md ops ms = true) : ∀ (n j i : Nat), j < n → j < ops.size → anc3 ms j i = true → anc md ops n j i = true
 | 0, j, i, hj, _, _ => by omega
 | n + 1, j, i, hj, hlt, h => by
   have h1 := List.all_eq_true.1 hm j (List.mem_range.2 hlt); have ho : ops[j]? = some ops[j] := Array.getElem?_eq_getElem hlt; rw [ho] at h1; have h2 := Nat.eq_of_beq_eq_true h1; unfold anc3 at h; rw [h2] at h; rcases step_bit _ _ h with h3 | ⟨e, he, hb, hon, h3⟩
   · simp at h3
   · unfold anc
     rw [ho]; simp only [Option.map_some, Option.getD_some, Array.any_eq_true', Bool.and_eq_true, Bool.or_eq_true, beq_iff_eq]; refine ⟨e, by simpa using he, hb, ?_⟩; rcases h3 with h3 | h3
     · exact .inl h3
     · exact .inr (mask_anc hm n e.on i (by omega) (by omega) h3)
theorem anc3_anc {md : Region.Mode} {ops : Array Oper} {ms : List Nat} (hm : masksOK md ops ms = true) (hl : ms.length = ops.size) {j i : Nat} (h : anc3 ms j i = true) : anc md ops ops.size j i = true := by
 by_cases hj : j < ops.size
 · exact mask_anc hm _ j i hj hj h
 · unfold anc3 at h
   rw [List.getD_eq_getElem?_getD, List.getElem?_eq_none (by omega)] at h; simp at h
def needs3 (ms : List Nat) (ls : List Nat) (j : Nat) : Bool := ls.any fun i => i != j && !anc3 ms j i
def forcedOK3 (md : Region.Mode) (ops : Array Oper) (ms ls es : List Nat) : Array Bool → List Nat → Bool
 | listed, i :: tl => Region.ready md ops listed == [i] && !needs3 ms ls i && es.contains i && forcedOK3 md ops ms ls es (listed.setIfInBounds i true) tl
 | listed, [] => Region.ready md ops listed == []
def planOK3 (md : Region.Mode) (ops : Array Oper) (ms ls es : List Nat) (tl : List Nat) : Array Bool → List (Nat × Nat) → Bool
 | listed, (k, i) :: r =>
   (if k == 2 then Region.ready md ops listed == [i] && es.contains i else Region.free md ops listed i && (Region.ready md ops listed).contains i && (k == 0 || (k == 1 && ls.contains i) || (k == 3 && es.all fun j => anc3 ms j i))) && planOK3 md ops ms ls es tl (listed.setIfInBounds i true) r
 | listed, [] => forcedOK3 md ops ms ls es listed tl
section
variable {md : Region.Mode} {ops : Array Oper} {ms ls es tl : List Nat}
theorem needs3_not (hm : masksOK md ops ms = true) (hl : ms.length = ops.size) {j : Nat} (h : (!needs3 ms ls j) = true) : (!needs md ops ls j) = true := by
 unfold needs3 at h; unfold needs; rw [Bool.not_eq_true', List.any_eq_false] at h ⊢; intro i hi h1; refine h i hi ?_; rw [Bool.and_eq_true, Bool.not_eq_true'] at h1 ⊢; refine ⟨h1.1, ?_⟩; cases h2 : anc3 ms j i with
 | false => rfl
 | true => have := anc3_anc hm hl h2; rw [h1.2] at this; cases this
theorem forced3 (hm : masksOK md ops ms = true) (hl : ms.length = ops.size) : ∀ (tl : List Nat) (d : Array Bool), forcedOK3 md ops ms ls es d tl = true → forcedOK md ops ls es d tl = true
 | [], d, h => h
 | i :: tl, d, h => by
   unfold forcedOK3 at h; unfold forcedOK; rw [Bool.and_eq_true, Bool.and_eq_true, Bool.and_eq_true] at h ⊢; exact ⟨⟨⟨h.1.1.1, needs3_not hm hl h.1.1.2⟩, h.1.2⟩, forced3 hm hl tl _ h.2⟩
theorem plan3 (ms : List Nat) (hm : masksOK md ops ms = true) (hl : ms.length = ops.size) : ∀ {pl : List (Nat × Nat)} {d : Array Bool}, planOK3 md ops ms ls es tl d pl = true → planOK md ops ls es tl d pl = true
 | [], d, h => forced3 hm hl tl d h
 | (k, i) :: r, d, h => by
   unfold planOK3 at h; unfold planOK; rw [Bool.and_eq_true] at h ⊢; refine ⟨?_, plan3 ms hm hl h.2⟩; have h1 := h.1; by_cases hk : (k == 2) = true
   · rw [if_pos hk] at h1 ⊢; exact h1
   · rw [if_neg hk] at h1 ⊢
     rw [Bool.and_eq_true] at h1 ⊢; refine ⟨h1.1, ?_⟩; have h2 := h1.2; rw [Bool.or_eq_true] at h2 ⊢; refine h2.imp id fun h3 => ?_
     rw [Bool.and_eq_true, List.all_eq_true] at h3 ⊢; exact ⟨h3.1, fun j hj => anc3_anc hm hl (h3.2 j hj)⟩
end
end
section
section
variable {P : Program} {ops : Array Oper} {Q : Exit → Act → World → Prop} {md : Region.Mode} {C : World → Prop} {ls es : List Nat}
structure AnyG (P : Program) (md : Region.Mode) (ops : Array Oper) (Q : Exit → Act → World → Prop) (C : World → Prop) (ls es : List Nat) (fuel : Nat) (listed : Array Bool) (a : Act) (w : World) : Prop where
 out : wpAnyT P md ops Q C ls es fuel listed a w
def closedOK (md : Region.Mode) (ops : Array Oper) (listed : Array Bool) : Bool := (List.range ops.size).all fun j => !(listed.getD j false) || ((ops[j]?).map fun o => o.after.all fun e => !Region.binds md e || listed.getD e.on false).getD true
theorem closed_of {listed : Array Bool} (h : closedOK md ops listed = true) : Closed md ops listed := by
 intro j o ho hj e he hb; unfold closedOK at h; rw [List.all_eq_true] at h
 have hlt : j < ops.size := by
  rcases Nat.lt_or_ge j ops.size with h' | h'
  · exact h'
  · rw [Array.getElem?_eq_none h'] at ho; cases ho
 have h1 := h j (List.mem_range.2 hlt); rw [hj, Bool.not_true, Bool.false_or, ho, Option.map_some, Option.getD_some, Array.all_eq_true'] at h1; have h2 := h1 e he; rw [hb, Bool.not_true, Bool.false_or] at h2; exact h2
def planOKf (md : Region.Mode) (ops : Array Oper) (ls es : List Nat) : Array Bool → List (Nat × Nat) → Bool
 | listed, (k, i) :: r =>
   (if k == 2 then Region.ready md ops listed == [i] && es.contains i else Region.free md ops listed i && (Region.ready md ops listed).contains i && (k == 0 || (k == 1 && ls.contains i) || (k == 3 && es.all fun j => anc2 md ops ops.size j i))) && planOKf md ops ls es (listed.setIfInBounds i true) r
 | _, [] => true
def afterL (listed : Array Bool) : List (Nat × Nat) → Array Bool
 | [] => listed
 | (_, i) :: r => afterL (listed.setIfInBounds i true) r
theorem plan_soundF (hs : Region.noSelect ops = true) (hQ : ∀ c a w d v, Q (.panic c) (Act.put a d v) w → Q (.panic c) a w) (T : Act → World → Prop) (L : Array Bool) (f : Nat) (hT : ∀ a w, T a w → wpAnyT P md ops Q C ls es f L a w) :
 ∀ (pl : List (Nat × Nat)) (fuel : Nat) (listed : Array Bool) (a : Act) (w : World), planOKf md ops ls es listed pl = true → afterL listed pl = L → f + pl.length = fuel → Closed md ops listed → C w →
 wpPlan P ops Q C T (planL ops pl) a w → wpAnyT P md ops Q C ls es fuel listed a w
 | [], fuel, listed, a, w, hp, hL, hf, _, _, h => by
   obtain rfl : f = fuel := by simpa using hf
   obtain rfl : listed = L := hL; exact hT _ _ h
 | (k, i) :: r, 0, _, _, _, _, _, hf, _, _, _ => by simp at hf
 | (k, i) :: r, fuel + 1, listed, a, w, hp, hL, hf, hc, hC, h => by
   simp only [planOKf, Bool.and_eq_true] at hp; obtain ⟨hk, hp⟩ := hp; have hf' : f + r.length = fuel := by simp at hf; omega
   have hready : i ∈ Region.ready md ops listed := by
    split at hk
    · have : Region.ready md ops listed = [i] := by
       simp only [Bool.and_eq_true, beq_iff_eq] at hk; exact hk.1
      rw [this]; simp
    · simp only [Bool.and_eq_true] at hk
      simpa using hk.1.2
   obtain ⟨_, o, ho, _⟩ := mem_ready.1 hready; simp only [planL, ho] at h; unfold wpPlan at h; have ih := fun a' w' hC' h' => plan_soundF hs hQ T L f hT r fuel (listed.setIfInBounds i true) a' w' hp hL hf' (hc.list hready) hC' h'
   by_cases k2 : k = 2
   · simp only [k2, beq_self_eq_true, if_true, Bool.and_eq_true, beq_iff_eq] at hk
     obtain ⟨hk, hei⟩ := hk; refine ⟨fun h0 => (by rw [hk] at h0; cases h0), fun j hj => ?_⟩; rw [hk] at hj; obtain rfl : j = i := by simpa using hj
     unfold wpOp; simp only [ho]; split
     · rename_i hw
       rw [if_pos hw] at h; rw [k2, if_neg (by decide), if_neg (by decide), if_neg (by decide)] at h; exact .inl (Oper.wp_mono (fun a' w' h' => ⟨⟨fun he => (by rw [hei] at he; cases he), fun _ _ => h'.1⟩, ih a' w' h'.1 h'.2⟩) h)
     · rename_i hw
       rw [if_neg hw] at h; exact ⟨⟨fun _ => by first | rfl | trivial, fun _ h => h⟩, ih _ _ hC h⟩
   · have hkf : (k == 2) = false := by simpa using k2
     simp only [hkf, Bool.false_eq_true, if_false, Bool.and_eq_true] at hk; obtain ⟨⟨hfree, _⟩, hls⟩ := hk
     have fin : ∀ (S : World → Prop) (v : Value), (∀ w, (i ∈ ls → C w) → S w) → YieldsIf P ops S o v a → wpPlan P ops Q C T (planL ops r) (a.put o.dst v) w → wpAnyT P md ops Q C ls es (fuel + 1) listed a w :=
      fun S v hS hy h' => wpAnyT_first ho (Region.noSelect_spec hs) (fun c a w => hQ c a w _ _) hS fuel listed a w hc (Region.free_spec ho hfree) hready hy (fun _ => hC) (ih _ _ hC h')
     by_cases hw : Region.wanted o (yielded ops a.tmps) = true
     · rw [if_pos hw] at h
       by_cases k0 : k = 0
       · rw [if_pos k0] at h
         obtain ⟨v, hy, h'⟩ := quietV_yields hw h; exact fin _ v (fun _ _ => trivial) hy h'
       · rw [if_neg k0] at h
         have k0' : (k == 0) = false := by simpa using k0
         simp only [k0', Bool.false_or, Bool.or_eq_true, Bool.and_eq_true, beq_iff_eq] at hls; rcases hls with hls | hls
         · have hl : i ∈ ls := by simpa using hls.2
           rw [if_pos hls.1] at h; obtain ⟨v, hy, h'⟩ := quietV_yields hw h; exact fin _ v (fun w h => h hl) hy h'
         · rw [hls.1, if_neg (by decide), if_pos rfl] at h
           obtain ⟨v, hy, h'⟩ := quietV_yields hw h; exact wpAnyT_exact ho (Region.noSelect_spec hs) (fun c a w => hQ c a w _ _) (fun j hj => anc2_anc (List.all_eq_true.1 hls.2 j hj)) fuel listed a hc (Region.free_spec ho hfree) hready hy (ih _ _ hC h')
     · rw [if_neg hw] at h
       exact fin (fun _ => True) undef (fun _ _ => trivial) (.inr ⟨by simpa using hw, rfl⟩) h
theorem any_seg {listed L : Array Bool} {a : Act} {w : World} {fuel : Nat} (pl : List (Nat × Nat)) (f : Nat) (hs : Region.noSelect ops = true) (hQ : ∀ c a w d v, Q (.panic c) (Act.put a d v) w → Q (.panic c) a w)
 (hc : closedOK md ops listed = true) (hp : planOKf md ops ls es listed pl = true) (hL : afterL listed pl = L) (hf : f + pl.length = fuel) (hC : C w)
 (h : Pl P ops Q C (AnyG P md ops Q C ls es f L) (planL ops pl) a w) : AnyG P md ops Q C ls es fuel listed a w :=
 ⟨plan_soundF hs hQ (AnyG P md ops Q C ls es f L) L f (fun _ _ h => h.out) pl fuel listed a w hp hL hf (closed_of hc) hC h.out⟩
theorem any_end {listed : Array Bool} {a : Act} {w : World} {fuel : Nat} (pl : List (Nat × Nat)) (tl : List Nat) (hs : Region.noSelect ops = true) (hQ : ∀ c a w d v, Q (.panic c) (Act.put a d v) w → Q (.panic c) a w)
 (hc : closedOK md ops listed = true) (hp : planOK2 md ops ls es tl listed pl = true) (hf : pl.length + tl.length = fuel) (hmap : tl.map (ops[·]?) = (tailL ops tl).map some) (hC : C w)
 (h : Pl P ops Q C (wpList P ops Q (tailL ops tl)) (planL ops pl) a w) : AnyG P md ops Q C ls es fuel listed a w :=
 ⟨plan_sound hs (fun c a w o v _ => hQ c a w o.dst v) tl _ hmap pl fuel listed a w (plan2 hp) hf (closed_of hc) hC h.out⟩
theorem any_fork {listed : Array Bool} {a : Act} {w : World} {f : Nat} (i j : Nat) {oi oj : Oper} (hr : Region.ready md ops listed = [i, j]) (he : (es.contains i && es.contains j) = true) (hi : ops[i]? = some oi) (hj : ops[j]? = some oj)
 (wi : Region.wanted oi (yielded ops a.tmps) = true) (wj : Region.wanted oj (yielded ops a.tmps) = true)
 (h1 : ∀ K : Act → World → Prop, (∀ a w, (C w ∧ AnyG P md ops Q C ls es f (listed.setIfInBounds i true) a w) → K a w) → oi.wp P a w K Q)
 (h2 : ∀ K : Act → World → Prop, (∀ a w, (C w ∧ AnyG P md ops Q C ls es f (listed.setIfInBounds j true) a w) → K a w) → oj.wp P a w K Q) : AnyG P md ops Q C ls es (f + 1) listed a w := by
 rw [Bool.and_eq_true] at he; refine ⟨fun h0 => (by rw [hr] at h0; cases h0), fun k hk => ?_⟩; rw [hr, List.mem_cons, List.mem_singleton] at hk; rcases hk with rfl | rfl
 · unfold wpOp
   simp only [hi]; rw [if_pos wi]; exact .inl (h1 _ fun a' w' h' => ⟨⟨fun h => (by rw [he.1] at h; cases h), fun _ _ => h'.1⟩, h'.2.out⟩)
 · unfold wpOp
   simp only [hj]; rw [if_pos wj]; exact .inl (h2 _ fun a' w' h' => ⟨⟨fun h => (by rw [he.2] at h; cases h), fun _ _ => h'.1⟩, h'.2.out⟩)
theorem wp_region_forks {id : Nat} {a : Act} {w : World} {l : List Oper} (ls es : List Nat) (C : World → Prop) (hm : P.follows .mixedOrders = true)
 (h : AnyG P .any l.toArray Q C ls es l.toArray.size (Array.replicate l.toArray.size false) a w.drew) : (Code.region id l.toArray true).wp P Q a w :=
 wp_region_any hm (wpAny_of_T _ _ _ _ h.out)
end
end
end Go.Proofs.YtoadjbgpfihoiaaGreatDoor
