/- A talk's copy. Condition: it lies as 'TalkAt' says. -/
import Derived.Test.YthhdgjofagdjeaaDoorJE
import Derived.Test.YthhdgjofagdjeaaDoorWide
set_option linter.unusedVariables false
set_option linter.unusedSimpArgs false
set_option maxHeartbeats 4000000
set_option maxRecDepth 100000
namespace Go.Proofs.YthhdgjofagdjeaaDoor
open Go.RowKit

def zTalk : List Value := [.slice none 0 0, .int .i64 0] ++ (List.replicate 16 [Value.bool false, .int .i64 0, .int .i64 0]).flatten ++ [.bool false]
theorem zeroTalk (w : World) : (zeroValue 93).run Tryd.prog w = .ok (.agg zTalk.toArray) w := by kernel_rfl
theorem infoTalk : (Tryd.prog.info? 93).map (·.size) = some 51 := by kernel_rfl
theorem infoTalk' : ∃ i, Tryd.prog.info? 93 = some i ∧ i.size = 51 := by
  have h := infoTalk
  cases hi : Tryd.prog.info? 93 with
  | none => rw [hi] at h; cases h
  | some i => rw [hi] at h; exact ⟨i, rfl, by simpa using h⟩
theorem TA.len (T : TA) (v : Value) (h : T.st.length = 16) : (T.cells v).length = 51 := by
  have := stsC_len T.st
  simp [TA.cells, this, h]
theorem stsC_one (l : List St) : ∀ u ∈ stsC l, u.oneCell' = true := by
  intro u hu
  obtain ⟨c, hc, huc⟩ := List.mem_flatten.1 hu
  obtain ⟨x, hx, rfl⟩ := List.mem_map.1 hc
  simp only [St.cells, List.mem_cons, List.not_mem_nil, or_false] at huc
  rcases huc with rfl | rfl | rfl <;> rfl
theorem TA.one (T : TA) (a : Option Addr) (n c : Nat) : ∀ u ∈ T.cells (.slice a n c), u.oneCell' = true := by
  intro u hu
  simp only [TA.cells, List.mem_cons, List.mem_append, List.not_mem_nil, or_false] at hu
  rcases hu with rfl | rfl | hu | rfl
  · rfl
  · rfl
  · exact stsC_one _ _ hu
  · rfl
theorem talk_copy {F : Nat → Prop} (w : World) (b : Nat) (T : TA) (h : TalkX w F b T) (hl : T.l.length ≤ 4096) :
    Calls Tryd.prog 32 #[.pointer (some ⟨b, 0, none⟩)] w fun e w' => ∃ b' F', e = .returned (.pointer (some ⟨b', 0, none⟩)) ∧ TalkX w' F' b' T ∧ Ext w w' ∧ ∀ k, F' k → w.heap.size ≤ k := by
  have HT := Lib.hid h
  obtain ⟨v, h⟩ := h
  obtain ⟨a, c, rfl⟩ := h.len
  have HAT := Lib.hid h
  have hlen := TA.len T (.slice a T.l.length c) h.sts
  have HLN := Lib.hid hlen
  obtain ⟨i, hi, hsz⟩ := infoTalk'
  have HI := Lib.hid hi
  have HS := Lib.hid hsz
  clear h hlen hi hsz
  go_enter Tryd.func32, Tryd.ntmps32
  go_wp2_with fail
  refine (talk_none w b _ HT.out).mono ?_
  rintro e w' ⟨rfl, rfl⟩
  go_wp2_with first
    | (refine wpList_load_wide 93 _ HAT.out.box Tryd.underlying93 rfl (infoTalk.trans (congrArg some HLN.out.symm)) rfl rfl rfl ?_)
    | (refine wpList_alloc_wide 93 (zeroTalk _) rfl rfl ?_; intro w1 hB1 hE1 hs1; replace hs1 := Lib.hid hs1; replace hB1 := Lib.hid hB1)
    | (refine wpList_store_wide 93 (vs := T.cells (.slice a T.l.length c)) _ _ hB1.out HI.out (HLN.out.trans HS.out.symm) (Eq.trans rfl HS.out.symm) (TA.one _ _ _ _) rfl rfl rfl rfl ?_; intro w2 hB2 hK2; replace hB2 := Lib.hid hB2; refine standing ?_)
  have hE2 : Ext w' w2 := hE1.then hK2 (fun i hi h => absurd (show i = w'.heap.size from h) (by omega))
  replace HT := Lib.hid (HT.out.ext hE2)
  replace HAT := Lib.hid (HAT.out.keeps hE2 fun _ _ => noB _)
  have HE := Lib.hid hE2
  have h01 := hE2.size
  have h02 := hK2.size
  have H12 := Lib.hid h02
  obtain ⟨c0, c1, c50, lt⟩ := HAT.out.see
  clear hE1 hK2 hE2 hB1 h01 h02
  refine ⟨?_⟩
  go_wp2_with fail
  refine (clone_lines w2 _ T.l HAT.out.win hl).mono ?_
  rintro e w3 ⟨v', rfl, hW3, hE3⟩
  have hB3 := hB2.out.ext hE3
  have d0 : w3.cell? ⟨w'.heap.size, 0, none⟩ = some (.slice a T.l.length c) := hB3.reads.1 0
  have dz := hB3.reads.2 0
  have dl := hB3.lt
  have HB3 := Lib.hid hB3
  have HE3 := Lib.hid (HE.out.ext hE3)
  have HW3 := Lib.hid hW3
  have H23 := Lib.hid hE3.size
  clear hB3 hW3 hE3
  obtain ⟨a', c', rfl⟩ := HW3.out.len
  go_wp2_with fail
  go_ret
  have hs := hs1.out
  have h3 := HE3.out.size
  have hk : Keeps (OneB w'.heap.size) w3 (w3.setCell ⟨w'.heap.size, 0, none⟩ (.slice a' T.l.length c')) := (Keeps.refl _ _).setOne 0 _
  have hb := HB3.out.set 0 (.slice a' T.l.length c')
  have hblk := HW3.out.block
  have h12 := H12.out
  have hw2 : w'.heap.size < w2.heap.size := by omega
  refine ⟨w'.heap.size, fun k => w'.heap.size ≤ k ∧ k < (w3.setCell ⟨w'.heap.size, 0, none⟩ (.slice a' T.l.length c')).heap.size, rfl, ⟨.slice a' T.l.length c', hb, ?_, ⟨Nat.le_refl _, hb.lt⟩, ?_, fun k hk => hk.2, HAT.out.sts⟩, ?_, fun k hk => hk.1⟩
  · refine (HW3.out.mono (Nat.zero_le _)).keeps hk fun g hg h => ?_
    have := (hblk g hg).1
    have : g = w'.heap.size := h
    omega
  · intro g hg
    have h9 := hblk g hg
    have h8 := hk.size
    exact ⟨⟨by omega, by omega⟩, by omega⟩
  · exact HE3.out.then hk fun i hi h => absurd (show i = w'.heap.size from h) (by omega)
end Go.Proofs.YthhdgjofagdjeaaDoor
