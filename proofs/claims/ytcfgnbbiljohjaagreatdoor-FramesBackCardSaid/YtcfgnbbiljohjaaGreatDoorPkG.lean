/- Texts Shelf, TA, TB, TC, UA, one behind the other. Conditions: as each says. -/
import Derived.Test.YtcfgnbbiljohjaaGreatDoorPkF
import Derived.Ground.NamesProg
import Derived.Shelf.Unicode.ValidAny
import Derived.Shelf.Strings.Trim
import Derived.Test.YtcfgnbbiljohjaaGreatDoorProg
section
/- What of Go's library this program holds, laid at its numbers (written by the kit's tools lay-shelf, lay-plain). No condition. -/
namespace Go.Proofs
open Go.Shelf
def Tryz.laysValid_ren : Go.Shelf.Ren := ⟨fun | 196 => 134 | 259 => 150 | n => n, fun | 9 => 9 | 4 => 4 | 3 => 3 | 5 => 5 | 12 => 12 | 119 => 180 | 0 => 0 | 46 => 144 | 139 => 183 | 138 => 182 | 53 => 199 | n => n, fun | 3 => 0 | 4 => 1 | n => n⟩
theorem Tryz.laysValid : Go.Proofs.Lays.n196 Tryz.prog Tryz.laysValid_ren := {
  mixed := by kernel_rfl
  f196 := Tryz.func134.trans (congrArg some (by kernel_rfl))
  f259 := Tryz.func150.trans (congrArg some (by kernel_rfl))
  t0 := Tryz.underlying0
  a0 := Tryz.isAgg0
  z0 := Tryz.sizeOf0
  v0 := Tryz.zeroValue0
  t3 := Tryz.underlying3
  a3 := Tryz.isAgg3
  z3 := Tryz.sizeOf3
  v3 := Tryz.zeroValue3
  t4 := Tryz.underlying4
  a4 := Tryz.isAgg4
  z4 := Tryz.sizeOf4
  v4 := Tryz.zeroValue4
  t5 := Tryz.underlying5
  a5 := Tryz.isAgg5
  z5 := Tryz.sizeOf5
  v5 := Tryz.zeroValue5
  t9 := Tryz.underlying9
  a9 := Tryz.isAgg9
  z9 := Tryz.sizeOf9
  v9 := Tryz.zeroValue9
  t12 := Tryz.underlying12
  a12 := Tryz.isAgg12
  z12 := Tryz.sizeOf12
  v12 := Tryz.zeroValue12
  t46 := Tryz.underlying144
  a46 := Tryz.isAgg144
  z46 := Tryz.sizeOf144
  v46 := Tryz.zeroValue144
  t53 := Tryz.underlying199
  a53 := Tryz.isAgg199
  z53 := Tryz.sizeOf199
  v53 := Tryz.zeroValue199
  t119 := Tryz.underlying180
  a119 := Tryz.isAgg180
  z119 := Tryz.sizeOf180
  t138 := Tryz.underlying182
  a138 := Tryz.isAgg182
  z138 := Tryz.sizeOf182
  v138 := Tryz.zeroValue182
  t139 := Tryz.underlying183
  a139 := Tryz.isAgg183
  z139 := Tryz.sizeOf183
  v139 := Tryz.zeroValue183
  g3 := by kernel_rfl
  g4 := by kernel_rfl }
def Tryz.laysTrim_ren : Go.Shelf.Ren := ⟨fun | 160 => 138 | 232 => 153 | 231 => 152 | 227 => 154 | 234 => 156 | 233 => 155 | 236 => 158 | 235 => 157 | 228 => 161 | 271 => 164 | 151 => 163 | 197 => 162 | 120 => 170 | 152 => 169 | 260 => 168 | 137 => 171 | 119 => 172 | 224 => 173 | 225 => 174 | 217 => 175 | 266 => 176 | n => n, fun | 9 => 9 | 4 => 4 | 3 => 3 | 5 => 5 | 117 => 187 | 116 => 186 | 0 => 0 | 124 => 190 | 21 => 21 | 105 => 200 | 46 => 144 | 119 => 180 | 139 => 183 | 138 => 182 | n => n, fun | 3 => 0 | 4 => 1 | n => n⟩
theorem Tryz.laysTrim : Go.Proofs.Lays.n160 Tryz.prog Tryz.laysTrim_ren := {
  mixed := by kernel_rfl
  f119 := Tryz.func172.trans (congrArg some (by kernel_rfl))
  f120 := Tryz.func170.trans (congrArg some (by kernel_rfl))
  f137 := Tryz.func171.trans (congrArg some (by kernel_rfl))
  f151 := Tryz.func163.trans (congrArg some (by kernel_rfl))
  f152 := Tryz.func169.trans (congrArg some (by kernel_rfl))
  f160 := Tryz.func138.trans (congrArg some (by kernel_rfl))
  f197 := Tryz.func162.trans (congrArg some (by kernel_rfl))
  f217 := Tryz.func175.trans (congrArg some (by kernel_rfl))
  f224 := Tryz.func173.trans (congrArg some (by kernel_rfl))
  f225 := Tryz.func174.trans (congrArg some (by kernel_rfl))
  f227 := Tryz.func154.trans (congrArg some (by kernel_rfl))
  f228 := Tryz.func161.trans (congrArg some (by kernel_rfl))
  f231 := Tryz.func152.trans (congrArg some (by kernel_rfl))
  f232 := Tryz.func153.trans (congrArg some (by kernel_rfl))
  f233 := Tryz.func155.trans (congrArg some (by kernel_rfl))
  f234 := Tryz.func156.trans (congrArg some (by kernel_rfl))
  f235 := Tryz.func157.trans (congrArg some (by kernel_rfl))
  f236 := Tryz.func158.trans (congrArg some (by kernel_rfl))
  f260 := Tryz.func168.trans (congrArg some (by kernel_rfl))
  f266 := Tryz.func176.trans (congrArg some (by kernel_rfl))
  f271 := Tryz.func164.trans (congrArg some (by kernel_rfl))
  t0 := Tryz.underlying0
  a0 := Tryz.isAgg0
  z0 := Tryz.sizeOf0
  v0 := Tryz.zeroValue0
  t3 := Tryz.underlying3
  a3 := Tryz.isAgg3
  z3 := Tryz.sizeOf3
  v3 := Tryz.zeroValue3
  t4 := Tryz.underlying4
  a4 := Tryz.isAgg4
  z4 := Tryz.sizeOf4
  v4 := Tryz.zeroValue4
  t5 := Tryz.underlying5
  a5 := Tryz.isAgg5
  z5 := Tryz.sizeOf5
  v5 := Tryz.zeroValue5
  t9 := Tryz.underlying9
  a9 := Tryz.isAgg9
  z9 := Tryz.sizeOf9
  v9 := Tryz.zeroValue9
  t21 := Tryz.underlying21
  a21 := Tryz.isAgg21
  z21 := Tryz.sizeOf21
  v21 := Tryz.zeroValue21
  t46 := Tryz.underlying144
  a46 := Tryz.isAgg144
  z46 := Tryz.sizeOf144
  v46 := Tryz.zeroValue144
  t105 := Tryz.underlying200
  a105 := Tryz.isAgg200
  z105 := Tryz.sizeOf200
  v105 := Tryz.zeroValue200
  t116 := Tryz.underlying186
  a116 := Tryz.isAgg186
  z116 := Tryz.sizeOf186
  t117 := Tryz.underlying187
  a117 := Tryz.isAgg187
  z117 := Tryz.sizeOf187
  v117 := Tryz.zeroValue187
  t119 := Tryz.underlying180
  a119 := Tryz.isAgg180
  z119 := Tryz.sizeOf180
  t124 := Tryz.underlying190
  a124 := Tryz.isAgg190
  z124 := Tryz.sizeOf190
  v124 := Tryz.zeroValue190
  t138 := Tryz.underlying182
  a138 := Tryz.isAgg182
  z138 := Tryz.sizeOf182
  v138 := Tryz.zeroValue182
  t139 := Tryz.underlying183
  a139 := Tryz.isAgg183
  z139 := Tryz.sizeOf183
  v139 := Tryz.zeroValue183
  g3 := by kernel_rfl
  g4 := by kernel_rfl }
end Go.Proofs
end
section
/- What may be wrong with a text (package text): each fault's question, and Check. Condition: unicode/utf8's two tables read as their initialisers lay them. -/
set_option linter.unusedVariables false
set_option linter.unusedSimpArgs false
set_option maxHeartbeats 2000000
set_option maxRecDepth 10000
namespace Go.Proofs.YtcfgnbbiljohjaaGreatDoor
open Go.RowKit Go.Shelf

/-- unicode/utf8's tables read as they are laid -/
def Tabs (w : World) : Prop := Lib.Utf8Tabs (Tryz.laysValid_ren.g 3) (Tryz.laysValid_ren.g 4) w
theorem valid_any (w : World) (s : ByteArray) (hs : s.size ≤ 9223372036854775807) (hT : Tabs w) :
    Calls Tryz.prog 134 #[.string s] w fun e w' => e = .returned (.bool (Lib.validD s.data.toList)) ∧ Ext w w' :=
  (Any.utf8_ValidString Tryz.laysValid s w hs hT).mono fun e w' ⟨a, b⟩ => ⟨a, Ext.of_below b⟩
theorem trim_any (w : World) (s : ByteArray) (hs : s.size ≤ 9223372036854775807) :
    Calls Tryz.prog 138 #[.string s, .string ⟨#[32]⟩] w fun e w' => e = .returned (.string ⟨(Lib.trimB s.data.toList 32).toArray⟩) ∧ Ext w w' :=
  (Any.strings_Trim_one Tryz.laysTrim s 32 (by decide) w hs).mono fun e w' ⟨a, b⟩ => ⟨a, by
    rcases b with rfl | rfl
    · exact Keeps.refl _ _
    · exact Ext.drew0 _⟩
theorem long_any (w : World) (s : ByteArray) : Calls Tryz.prog 132 #[.string s] w fun e w' => e = .returned (.bool (decide (200 < s.size))) ∧ w' = w := by
  go_enter Tryz.func132, Tryz.ntmps132
  go_wp2_with fail
  go_ret
  simp
  omega
theorem broken_any (w : World) (s : ByteArray) (hs : s.size ≤ 9223372036854775807) (hT : Tabs w) : Calls Tryz.prog 133 #[.string s] w fun e w' => e = .returned (.bool (!Lib.validD s.data.toList)) ∧ Ext w w' := by
  have HT := Lib.hid hT
  clear hT
  go_enter Tryz.func133, Tryz.ntmps133
  go_wp2_with fail
  refine (valid_any _ s hs HT.out).mono ?_
  rintro e w' ⟨rfl, hE⟩
  have HE := Lib.hid hE
  clear hE
  go_wp2_with fail
  go_ret
  exact ⟨by simp, HE.out⟩
def badR (r : Nat) : Bool := decide (r < 32) || (decide (127 ≤ r) && decide (r < 160))
theorem rune_any (w : World) (r : Nat) : Calls Tryz.prog 136 #[.int .i32 r] w fun e w' => e = .returned (.bool (badR r)) ∧ w' = w := by
  by_cases h1 : r < 32
  · have g1 : (r : Int) < 32 := by omega
    go_enter Tryz.func136, Tryz.ntmps136
    go_wp2_with fail
    go_ret
    simp [badR, h1]
  · have g1 : ¬ (r : Int) < 32 := by omega
    by_cases h2 : 127 ≤ r
    · have g2 : (127 : Int) ≤ (r : Int) := by omega
      go_enter Tryz.func136, Tryz.ntmps136
      go_wp2_with fail
      go_ret
      simp [badR, h1, h2]
      omega
    · have g2 : ¬ (127 : Int) ≤ (r : Int) := by omega
      go_enter Tryz.func136, Tryz.ntmps136
      go_wp2_with fail
      go_ret
      simp [badR, h1, h2]
theorem badR_eq (x : Sg) : x.bad = badR x.n := by
  unfold Sg.bad badR
  congr 2
  exact decide_eq_decide.2 (by omega)
def badsF (l : List UInt8) (f p : Nat) : Bool := (signsF l f p).any (·.bad)
theorem bad_any (w : World) (c : Nat) (s : ByteArray) (hs : s.size ≤ 9223372036854775807) (hB : Box w c 168 [.func (.func 136) #[] #[]]) :
    Calls Tryz.prog 151 #[.string s, .pointer (some ⟨c, 0, none⟩)] w fun e w' => e = .returned (.bool (badsF s.data.toList s.size 0)) ∧ Ext w w' := by
  have HB := Lib.hid hB
  clear hB
  go_enter Tryz.func151, Tryz.ntmps151
  go_wp2_with fail
  have HE0 := Lib.hid ((Keeps.refl NoB w).alloc (.stringIter s 0))
  go_loopw [5] (fun r wr => ∃ (pos f : Nat), wr = w.iter s pos ∧ badsF s.data.toList f pos = badsF s.data.toList s.size 0 ∧ s.size ≤ pos + f) (fun _ wr => s.size - wr.iterPos w.heap.size)
  case atStart => exact ⟨0, s.size, rfl, rfl, by omega⟩
  case round =>
    obtain ⟨pos, f, rfl, hc, hf⟩ := hrel
    have hBx := (HB.out.ext ((Keeps.refl NoB w).alloc (.stringIter s pos)) : Box (w.iter s pos) _ _ _)
    have hlt := HB.out.lt
    by_cases hp : pos < s.size
    · have hnx : ∀ ty, (Instr.next (.pointer (some ⟨w.heap.size, 0, none⟩)) true ty).run Tryz.prog (w.iter s pos) = _ := fun ty => run_next_any w s pos ty hp
      have hb2 := (HB.out.ext ((Keeps.refl NoB w).alloc (.stringIter s (pos + (Utf8.decode s pos).2))) : Box (w.iter s (pos + (Utf8.decode s pos).2)) _ _ _)
      obtain ⟨f1, z1⟩ := hb2.reads
      clear hBx hb2
      have hw1 : 1 ≤ (Utf8.decode s pos).2 := by rw [← Lib.decodeL_drop]; exact decodeL_pos _
      obtain ⟨f, rfl⟩ : ∃ g, f = g + 1 := ⟨f - 1, by omega⟩
      have hstep : badsF s.data.toList (f + 1) pos = (badR (Utf8.decode s pos).1 || badsF s.data.toList f (pos + (Utf8.decode s pos).2)) := by
        unfold badsF
        rw [signsF_step _ _ _ hp, List.any_cons, badR_eq, Lib.decodeL_drop]
      rw [hstep] at hc
      have HC := Lib.hid hc
      have HW := Lib.hid hw1
      have HF := Lib.hid hf
      clear hstep hc hw1 hf
      go_wp2_with fail
      refine (rune_any _ _).mono ?_
      rintro e w' ⟨rfl, hw⟩
      rw [hw]
      clear hw w'
      cases hb : badR (Utf8.decode s pos).1
      · go_wp2_with fail
        go_roundw
        case rel =>
          have := HC.out
          rw [hb, Bool.false_or] at this
          exact ⟨_, f, rfl, this, by have := HF.out; have := HW.out; omega⟩
        case measure =>
          have := HW.out
          simp
          omega
      · go_wp2_with fail
        go_ret
        refine ⟨?_, (Keeps.refl NoB w).alloc _⟩
        have := HC.out
        rw [hb, Bool.true_or] at this
        rw [← this]
        rfl
    · have hnx : ∀ ty, (Instr.next (.pointer (some ⟨w.heap.size, 0, none⟩)) true ty).run Tryz.prog (w.iter s pos) = _ := fun ty => run_next_end w s pos ty hp
      have hend : badsF s.data.toList f pos = false := by unfold badsF; rw [signsF_end _ _ _ hp]; rfl
      rw [hend] at hc
      have HC := Lib.hid hc
      clear hend hc hBx
      go_wp2_with fail
      go_ret
      exact ⟨by rw [← HC.out]; rfl, (Keeps.refl NoB w).alloc _⟩
/-- the question on blanks -/
def blankR (l : List UInt8) : Bool := l.isEmpty || decide (Lib.trimB l 32 ≠ l)
theorem blank_any (w : World) (l : List UInt8) (hs : l.length ≤ 9223372036854775807) : Calls Tryz.prog 137 #[.string (bs l)] w fun e w' => e = .returned (.bool (blankR l)) ∧ Ext w w' := by
  have e1 := bs_toList l
  by_cases h0 : l = []
  · subst h0
    go_enter Tryz.func137, Tryz.ntmps137
    go_wp2_with fail
    go_ret
    exact ⟨rfl, Keeps.refl _ _⟩
  · have hd := bs_data l
    have hsz : (bs l).size ≤ 9223372036854775807 := by rw [Lib.size_eq, hd]; exact hs
    have hn : l.isEmpty = false := by cases l; exact absurd rfl h0; rfl
    have HD := Lib.hid hd
    have HN := Lib.hid hn
    clear hd hn hs
    have e2 := bs_toList (Lib.trimB l 32)
    by_cases ht : Lib.trimB l 32 = l
    · have HT := Lib.hid ht
      go_enter Tryz.func137, Tryz.ntmps137
      go_wp2_with fail
      refine (trim_any _ _ hsz).mono ?_
      rintro e w' ⟨rfl, hE⟩
      rw [HD.out, HT.out]
      have HE := Lib.hid hE
      clear hE ht e2
      go_wp2_with fail
      go_ret
      exact ⟨by simp [blankR, HN.out, HT.out], HE.out⟩
    · have HT := Lib.hid ht
      go_enter Tryz.func137, Tryz.ntmps137
      go_wp2_with fail
      refine (trim_any _ _ hsz).mono ?_
      rintro e w' ⟨rfl, hE⟩
      rw [HD.out, show (⟨(Lib.trimB l 32).toArray⟩ : ByteArray) = bs (Lib.trimB l 32) from rfl]
      have HE := Lib.hid hE
      clear hE
      go_wp2_with fail
      go_ret
      exact ⟨by simp [blankR, HN.out, HT.out], HE.out⟩
end Go.Proofs.YtcfgnbbiljohjaaGreatDoor
end
section
/- text.Check tells what is wrong with a text: the number that 'chk' tells. Condition: unicode/utf8's two tables read as their initialisers lay them. -/
set_option linter.unusedVariables false
set_option linter.unusedSimpArgs false
set_option maxHeartbeats 2000000
set_option maxRecDepth 10000
namespace Go.Proofs.YtcfgnbbiljohjaaGreatDoor
open Go.RowKit Go.Shelf

theorem Tabs.ext {w w' : World} (h : Tabs w) (e : Ext w w') : Tabs w' := Utf8Tabs_below h ⟨e.os, e.tape, e.output, e.size, fun k hk => e.block k hk (noB k)⟩
theorem made_bad (w : World) : Calls Tryz.prog 135 #[.func (.func 136) #[] #[]] w fun r w' => r = .returned (.func (.func 151) #[] #[.pointer (some ⟨w.heap.size, 0, none⟩)]) ∧ w' = w.alloc (.cells #[.func (.func 136) #[] #[]] 168) := by
  go_enter Tryz.func135, Tryz.ntmps135
  go_wp2_with fail
  go_ret
  exact ⟨rfl, rfl⟩
/-- text.Check as it asks -/
def chkR (l : List UInt8) : Nat := if 200 < l.length then 3 else if Lib.validD l = false then 130 else if badsF l l.length 0 = true then 131 else if blankR l = true then 132 else 0
theorem check_text (W w : World) (hT : Tabs W) (hE : Ext W w) (l : List UInt8) (hs : l.length ≤ 9223372036854775807) :
    Calls Tryz.prog 103 #[.string (bs l)] w fun r w' => r = .returned (.int .i64 (chkR l : Int)) ∧ Ext w w' := by
  have HM := Lib.hid (Mem.start0 w)
  have HT := Lib.hid (hT.ext hE)
  have HS := Lib.hid hs
  clear hT hE hs
  go_enter Tryz.func103, Tryz.ntmps103
  have fM := HM.out.fa
  go_wp2_with fail
  all_goals clear fM
  refine (made_bad _).mono ?_
  rintro r w1 ⟨rfl, rfl⟩
  have fM := HM.out.fa
  go_wp2_with fail
  all_goals clear fM
  refine nxt HM fun w1 M => ?_
  clear HM; have HM := M; clear M
  refine wp_loop_rounds 5 ?_
  rw [rounds_succ]
  have fM := HM.out.fa
  go_wp2_with fail
  all_goals clear fM
  refine nxt HM fun w2 M => ?_
  clear HM; have HM := M; clear M
  refine (long_any _ _).mono ?_
  rintro r wq ⟨rfl, hwq⟩
  rw [hwq, bs_size]
  clear hwq wq
  by_cases h1 : 200 < l.length
  · have HQ := Lib.hid (show chkR l = 3 by unfold chkR; rw [if_pos h1])
    rw [decide_eq_true h1]
    have fM := HM.out.fa
    go_wp2_with fail
    all_goals clear fM
    go_ret
    exact ⟨by rw [HQ.out]; rfl, HM.out.extTo⟩
  rw [decide_eq_false h1]
  have H1 := Lib.hid h1
  clear h1
  have fM := HM.out.fa
  go_wp2_with fail
  all_goals clear fM
  rw [rounds_succ]
  have fM := HM.out.fa
  go_wp2_with fail
  all_goals clear fM
  refine nxt HM fun w3 M => ?_
  clear HM; have HM := M; clear M
  refine (broken_any _ _ (by rw [bs_size]; exact HS.out) (HT.out.ext HM.out.extTo)).mono ?_
  rintro r w4 ⟨rfl, hE⟩
  replace HM := Lib.hid (HM.out.ext hE)
  clear hE
  rw [bs_data]
  cases h2 : Lib.validD l
  · have HQ := Lib.hid (show chkR l = 130 by unfold chkR; rw [if_neg H1.out, if_pos h2])
    clear h2
    rw [Bool.not_false]
    have fM := HM.out.fa
    go_wp2_with fail
    all_goals clear fM
    go_ret
    exact ⟨by rw [HQ.out]; rfl, HM.out.extTo⟩
  have H2 := Lib.hid h2
  clear h2
  rw [Bool.not_true]
  have fM := HM.out.fa
  go_wp2_with fail
  all_goals clear fM
  rw [rounds_succ]
  have fM := HM.out.fa
  go_wp2_with fail
  all_goals clear fM
  refine nxt HM fun w5 M => ?_
  clear HM; have HM := M; clear M
  obtain ⟨Ahb, hb⟩ := HM.out.get (r := cellsR w.heap.size 168 [.func (.func 136) #[] #[]]) (by with_reducible repeat first | exact ph | apply pt)
  refine (bad_any _ _ _ (by rw [bs_size]; exact HS.out) hb.2).mono ?_
  rintro r w6 ⟨rfl, hE⟩
  replace HM := Lib.hid (HM.out.ext hE)
  clear hE hb
  try clear Ahb
  rw [bs_data, bs_size]
  cases h3 : badsF l l.length 0
  case true =>
    have HQ := Lib.hid (show chkR l = 131 by unfold chkR; rw [if_neg H1.out, if_neg (by rw [H2.out]; exact Bool.noConfusion), if_pos h3])
    clear h3
    have fM := HM.out.fa
    go_wp2_with fail
    all_goals clear fM
    go_ret
    exact ⟨by rw [HQ.out]; rfl, HM.out.extTo⟩
  have H3 := Lib.hid h3
  clear h3
  have fM := HM.out.fa
  go_wp2_with fail
  all_goals clear fM
  rw [rounds_succ]
  have fM := HM.out.fa
  go_wp2_with fail
  all_goals clear fM
  refine nxt HM fun w7 M => ?_
  clear HM; have HM := M; clear M
  refine (blank_any _ _ HS.out).mono ?_
  rintro r w8 ⟨rfl, hE⟩
  replace HM := Lib.hid (HM.out.ext hE)
  clear hE
  cases h4 : blankR l
  case true =>
    have HQ := Lib.hid (show chkR l = 132 by unfold chkR; rw [if_neg H1.out, if_neg (by rw [H2.out]; exact Bool.noConfusion), if_neg (by rw [H3.out]; exact Bool.noConfusion), if_pos h4])
    clear h4
    have fM := HM.out.fa
    go_wp2_with fail
    all_goals clear fM
    go_ret
    exact ⟨by rw [HQ.out]; rfl, HM.out.extTo⟩
  have HQ := Lib.hid (show chkR l = 0 by unfold chkR; rw [if_neg H1.out, if_neg (by rw [H2.out]; exact Bool.noConfusion), if_neg (by rw [H3.out]; exact Bool.noConfusion), if_neg (by rw [h4]; exact Bool.noConfusion)])
  clear h4
  have fM := HM.out.fa
  go_wp2_with fail
  all_goals clear fM
  rw [rounds_succ]
  have fM := HM.out.fa
  go_wp2_with fail
  all_goals clear fM
  go_ret
  exact ⟨by rw [HQ.out]; rfl, HM.out.extTo⟩
end Go.Proofs.YtcfgnbbiljohjaaGreatDoor
end
section
/- What text.Check tells is what the document tells: the signs of a text. No program is named here. -/
set_option linter.unusedVariables false
set_option linter.unusedSimpArgs false
set_option maxRecDepth 10000
namespace Go.Proofs.YtcfgnbbiljohjaaGreatDoor
open Go.RowKit Go.Shelf
theorem dropWhile_len (p : UInt8 → Bool) : ∀ l : List UInt8, (l.dropWhile p).length ≤ l.length
  | [] => Nat.le_refl _
  | x :: l => by
    rw [List.dropWhile_cons]
    split
    · have := dropWhile_len p l; rw [List.length_cons]; omega
    · exact Nat.le_refl _
theorem dropWhile_id (p : UInt8 → Bool) (l : List UInt8) : l.dropWhile p = l ↔ ∀ x, l.head? = some x → p x = false := by
  cases l with
  | nil => simp
  | cons y l =>
    rw [List.dropWhile_cons]
    constructor
    · intro h x hx
      obtain rfl : y = x := by simpa using hx
      cases hp : p y
      · rfl
      · rw [if_pos hp] at h
        have := dropWhile_len p l
        rw [h, List.length_cons] at this
        omega
    · intro h
      rw [if_neg (by rw [h y rfl]; exact Bool.noConfusion)]
theorem trim_id (l : List UInt8) : Lib.trimB l 32 = l ↔ l.head? ≠ some 32 ∧ l.getLast? ≠ some 32 := by
  unfold Lib.trimB Lib.trimLeftB Lib.trimRightB
  have k1 := dropWhile_len (fun x => x == 32) l.reverse
  have k2 := dropWhile_len (fun x => x == 32) (l.reverse.dropWhile (fun x => x == 32)).reverse
  constructor
  · intro h
    have hl := congrArg List.length h
    rw [List.length_reverse] at k1 k2
    have e1 : l.reverse.dropWhile (fun x => x == 32) = l.reverse := by
      have hs : (l.reverse.dropWhile (fun x => x == 32)).length = l.reverse.length := by rw [List.length_reverse]; omega
      exact (List.dropWhile_suffix _).eq_of_length hs
    rw [e1, List.reverse_reverse] at h
    constructor
    · intro hx
      have := (dropWhile_id _ _).1 h 32 hx
      simp at this
    · intro hx
      have := (dropWhile_id _ _).1 e1 32 (by rw [List.head?_reverse]; exact hx)
      simp at this
  · rintro ⟨h1, h2⟩
    have e1 : l.reverse.dropWhile (fun x => x == 32) = l.reverse := (dropWhile_id _ _).2 fun x hx => by
      rw [List.head?_reverse] at hx
      have : x ≠ 32 := fun e => h2 (by rw [hx, e])
      simpa using this
    rw [e1, List.reverse_reverse]
    exact (dropWhile_id _ _).2 fun x hx => by
      have : x ≠ 32 := fun e => h1 (by rw [hx, e])
      simpa using this
theorem blankR_eq (l : List UInt8) : blankR l = blankB l := by
  unfold blankR blankB
  have h := trim_id l
  by_cases h1 : l.head? = some 32
  · have : ¬ Lib.trimB l 32 = l := fun h2 => (h.1 h2).1 h1
    simp [h1, this]
  · by_cases h2 : l.getLast? = some 32
    · have : ¬ Lib.trimB l 32 = l := fun h3 => (h.1 h3).2 h2
      simp [h2, this]
    · have : Lib.trimB l 32 = l := h.2 ⟨h1, h2⟩
      rw [beq_eq_false_iff_ne.2 h1, beq_eq_false_iff_ne.2 h2]
      simp [this]
theorem chkR_eq (l : List UInt8) : chkR l = chk l := by
  unfold chkR chk
  have hv := valid_signs l l.length 0 (by omega)
  rw [List.drop_zero] at hv
  rw [blankR_eq, show badsF l l.length 0 = (signsL l).any (·.bad) from rfl]
  have hv' : Lib.validD l = !(signsL l).any (·.broken) := hv
  rw [hv']
  cases (signsL l).any (·.broken) <;> simp
theorem check_chk (W w : World) (hT : Tabs W) (hE : Ext W w) (l : List UInt8) (hs : l.length ≤ 9223372036854775807) :
    Calls Tryz.prog 103 #[.string (bs l)] w fun r w' => r = .returned (.int .i64 (chk l : Int)) ∧ Ext w w' := by
  rw [← chkR_eq]; exact check_text W w hT hE l hs
/-- what the condition on the tables gives -/
theorem tabs_of (W : World) (h : Tab W) : Tabs W := by
  have hL : laidMet Tryz.prog tables W := h
  exact utf8Tabs_of_readsT (U8Types.of196 Tryz.laysValid) ⟨by kernel_rfl, by kernel_rfl, by kernel_rfl, by kernel_rfl, by kernel_rfl, by kernel_rfl, by kernel_rfl⟩ (Lib.laidMet.reads hL (.tail _ (.head _))) (Lib.laidMet.reads hL (.head _))
end Go.Proofs.YtcfgnbbiljohjaaGreatDoor
end
section
/- The document's sign: with which sign bytes begin. No condition but that there are bytes. -/
set_option linter.unusedVariables false
set_option linter.unusedSimpArgs false
set_option maxHeartbeats 2000000
set_option maxRecDepth 10000
namespace Go.Proofs.YtcfgnbbiljohjaaGreatDoor
open Go.RowKit Go.Shelf Go.Lib
theorem morec_any (w : World) (c : UInt8) : Calls Tryz.prog 147 #[.int .u8 c.toNat] w fun e w' => e = .returned (.bool (decide (c.toNat / 64 = 2))) ∧ w' = w := by
  have hc := c.toNat_lt
  by_cases h : c.toNat / 64 = 2
  · have g1 : (128 : Int) ≤ (c.toNat : Int) := by omega
    have g2 : (c.toNat : Int) < 192 := by omega
    rw [decide_eq_true h]
    go_enter Tryz.func147, Tryz.ntmps147
    go_wp2_with fail
    go_ret
    exact ⟨rfl, rfl⟩
  · rw [decide_eq_false h]
    by_cases h1 : c.toNat < 128
    · have g1 : ¬ (128 : Int) ≤ (c.toNat : Int) := by omega
      go_enter Tryz.func147, Tryz.ntmps147
      go_wp2_with fail
      go_ret
      exact ⟨rfl, rfl⟩
    · have g1 : (128 : Int) ≤ (c.toNat : Int) := by omega
      have g2 : ¬ (c.toNat : Int) < 192 := by omega
      go_enter Tryz.func147, Tryz.ntmps147
      go_wp2_with fail
      go_ret
      exact ⟨rfl, rfl⟩
theorem w64 {x y : Int} (h : x = y) (h0 : 0 ≤ y) (h1 : y < 9223372036854775808) : wrap64 x = y := by subst h; unfold wrap64; omega
theorem index_bs (l : List UInt8) (i : Nat) (h : i < l.length) (W : World) : (Instr.index 9 (.string (bs l)) (.int .i64 (i : Int))).run Tryz.prog W = .ok (.int .u8 ((l.getD i 0).toNat : Int)) W := by
  rw [run_index_string W _ _ _ _ Tryz.underlying9, dif_pos ⟨by omega, by rw [bs_size]; omega⟩]
  congr 3
  rw [List.getD_eq_getElem?_getD, List.getElem?_eq_getElem h]
  rfl
theorem more_nat (w : World) (n : Nat) (h : n < 256) : Calls Tryz.prog 147 #[.int .u8 (n : Int)] w fun e w' => e = .returned (.bool (decide (n / 64 = 2))) ∧ w' = w := by
  obtain ⟨c, rfl⟩ : ∃ c : UInt8, n = c.toNat := ⟨UInt8.ofNat n, by simp; omega⟩
  exact morec_any w c
theorem sign_core (w : World) (l : List UInt8) (a b c d : Nat) (HBa : Hid (a < 256)) (HBb : Hid (b < 256)) (HBc : Hid (c < 256)) (HBd : Hid (d < 256)) (h0 : 0 < l.length)
    (HS : Hid (sgn l = if decodeN l.length a b c d = (65533, 1) then (0, 0) else decodeN l.length a b c d))
    (HI0 : Hid (0 < l.length → ∀ W, (Instr.index 9 (.string (bs l)) (.int .i64 0)).run Tryz.prog W = .ok (.int .u8 (a : Int)) W))
    (HI1 : Hid (1 < l.length → ∀ W, (Instr.index 9 (.string (bs l)) (.int .i64 1)).run Tryz.prog W = .ok (.int .u8 (b : Int)) W))
    (HI2 : Hid (2 < l.length → ∀ W, (Instr.index 9 (.string (bs l)) (.int .i64 2)).run Tryz.prog W = .ok (.int .u8 (c : Int)) W))
    (HI3 : Hid (3 < l.length → ∀ W, (Instr.index 9 (.string (bs l)) (.int .i64 3)).run Tryz.prog W = .ok (.int .u8 (d : Int)) W)) :
    Calls Tryz.prog 124 #[.string (bs l)] w fun e w' => e = .returned (.tuple #[.int .i64 ((sgn l).1 : Int), .int .i64 ((sgn l).2 : Int)]) ∧ Ext w w' := by
  have hba := HBa.out
  have hbb := HBb.out
  have hbc := HBc.out
  have hbd := HBd.out
  have hsz := bs_size l
  by_cases hA : a < 128
  · have hA' := hA
    have hd : decodeN l.length a b c d = (a, 1) := by
      unfold decodeN
      rw [if_pos hA]
    have hq : sgn l = (a, 1) := by
      rw [HS.out, hd, if_neg (fun h => by have := congrArg Prod.fst h; simp at this; omega)]
    clear hd
    have HQ := Lib.hid hq
    clear hq
    have g1 : (a : Int) < 128 := by omega
    have hi0 := HI0.out (by omega)
    clear h0
    have ka : (a : Int) < 256 := by omega
    try clear hA
    try clear hA2
    try clear hA3
    try clear hA4
    try clear hA5
    try clear hA'
    try clear hL
    try clear hB
    try clear hC
    try clear hD
    try clear hN
    try clear hM
    try clear hO
    clear hba hbb hbc hbd
    go_enter Tryz.func124, Tryz.ntmps124
    go_wp2_with fail
    go_ret2
    rw [HQ.out]
    first | exact ⟨rfl, Keeps.refl _ _⟩ | exact ⟨rfl, Ext.drew0 _⟩
  by_cases hA2 : a < 192
  · have hA' := hA2
    have hd : decodeN l.length a b c d = (65533, 1) := by
      unfold decodeN
      rw [if_neg (by omega), if_neg (by omega), if_neg (by omega), if_neg (by omega)]
    have hq : sgn l = (0, 0) := by
      rw [HS.out, hd, if_pos rfl]
    clear hd
    have HQ := Lib.hid hq
    clear hq
    have g1 : ¬ (a : Int) < 128 := by omega
    have g2 : ¬ (192 : Int) ≤ (a : Int) := by omega
    have g3 : ¬ (224 : Int) ≤ (a : Int) := by omega
    have g4 : ¬ (240 : Int) ≤ (a : Int) := by omega
    have hi0 := HI0.out (by omega)
    clear h0
    have ka : (a : Int) < 256 := by omega
    try clear hA
    try clear hA2
    try clear hA3
    try clear hA4
    try clear hA5
    try clear hA'
    try clear hL
    try clear hB
    try clear hC
    try clear hD
    try clear hN
    try clear hM
    try clear hO
    clear hba hbb hbc hbd
    go_enter Tryz.func124, Tryz.ntmps124
    go_wp2_with fail
    go_ret2
    rw [HQ.out]
    first | exact ⟨rfl, Keeps.refl _ _⟩ | exact ⟨rfl, Ext.drew0 _⟩
  by_cases hA3 : a < 224
  · by_cases hL : 2 ≤ l.length
    · by_cases hB : b / 64 = 2
      · have HB := Lib.hid hB
        obtain ⟨p, hnp⟩ : ∃ p : Nat, a = p + 192 := ⟨a - 192, by omega⟩
        obtain ⟨b1, hnb1⟩ : ∃ b1 : Nat, b = b1 + 128 := ⟨b - 128, by omega⟩
        obtain ⟨q, hnq⟩ : ∃ q : Nat, q = p * 64 := ⟨_, rfl⟩
        obtain ⟨r, hnr⟩ : ∃ r : Nat, r = q + b := ⟨_, rfl⟩
        obtain ⟨n, hnn⟩ : ∃ n : Nat, n = q + b1 := ⟨_, rfl⟩
        by_cases hN : 128 ≤ n
        · skip
          have hd : decodeN l.length a b c d = (n, 2) := by
            unfold decodeN
            rw [if_neg (by omega), if_pos ⟨by omega, by omega, hB⟩, if_pos (by omega)]
            exact Prod.ext (by show _ = n; omega) rfl
          have hq : sgn l = (n, 2) := by
            rw [HS.out, hd, if_neg (fun h => by have := congrArg Prod.snd h; simp at this)]
          clear hd
          have HQ := Lib.hid hq
          clear hq
          have g1 : ¬ (a : Int) < 128 := by omega
          have g2 : (192 : Int) ≤ (a : Int) := by omega
          have g3 : (a : Int) < 224 := by omega
          have g4 : ¬ (224 : Int) ≤ (a : Int) := by omega
          have g5 : ¬ (240 : Int) ≤ (a : Int) := by omega
          have gl : (2 : Int) ≤ (l.length : Int) := by omega
          have gn : (128 : Int) ≤ (((a : Int) - 192) * 64 + (b : Int) - 128) := by omega
          have hi0 := HI0.out (by omega)
          have hi1 := HI1.out (by omega)
          have HE := Lib.hid (show (n : Int) = (((a : Int) - 192) * 64 + (b : Int) - 128) from by omega)
          clear hnp hnb1 hnq hnr hnn h0
          have kb : (128 : Int) ≤ (b : Int) ∧ (b : Int) < 192 := by omega
          have kb1 := kb.1
          have kb2 := kb.2
          clear kb
          have ka : (a : Int) < 256 := by omega
          try clear hA
          try clear hA2
          try clear hA3
          try clear hA4
          try clear hA5
          try clear hA'
          try clear hL
          try clear hB
          try clear hC
          try clear hD
          try clear hN
          try clear hM
          try clear hO
          clear hba hbb hbc hbd
          go_enter Tryz.func124, Tryz.ntmps124
          go_wp2_with fail
          refine (more_nat _ _ HBb.out).mono ?_
          rintro e w1 ⟨rfl, hw⟩
          rw [hw, show decide (b / 64 = 2) = true from decide_eq_true HB.out]
          clear hw w1
          go_wp2_with fail
          go_ret2
          rw [HQ.out]
          dsimp only
          rw [HE.out]
          first | exact ⟨rfl, Keeps.refl _ _⟩ | exact ⟨rfl, Ext.drew0 _⟩
        · skip
          have hd : decodeN l.length a b c d = (65533, 1) := by
            unfold decodeN
            rw [if_neg (by omega), if_pos ⟨by omega, by omega, hB⟩, if_neg (by omega)]
          have hq : sgn l = (0, 0) := by
            rw [HS.out, hd, if_pos rfl]
          clear hd
          have HQ := Lib.hid hq
          clear hq
          have g1 : ¬ (a : Int) < 128 := by omega
          have g2 : (192 : Int) ≤ (a : Int) := by omega
          have g3 : (a : Int) < 224 := by omega
          have g4 : ¬ (224 : Int) ≤ (a : Int) := by omega
          have g5 : ¬ (240 : Int) ≤ (a : Int) := by omega
          have gl : (2 : Int) ≤ (l.length : Int) := by omega
          have gn : ¬ (128 : Int) ≤ (((a : Int) - 192) * 64 + (b : Int) - 128) := by omega
          have hi0 := HI0.out (by omega)
          have hi1 := HI1.out (by omega)
          clear hnp hnb1 hnq hnr hnn h0
          have kb : (128 : Int) ≤ (b : Int) ∧ (b : Int) < 192 := by omega
          have kb1 := kb.1
          have kb2 := kb.2
          clear kb
          have ka : (a : Int) < 256 := by omega
          try clear hA
          try clear hA2
          try clear hA3
          try clear hA4
          try clear hA5
          try clear hA'
          try clear hL
          try clear hB
          try clear hC
          try clear hD
          try clear hN
          try clear hM
          try clear hO
          clear hba hbb hbc hbd
          go_enter Tryz.func124, Tryz.ntmps124
          go_wp2_with fail
          refine (more_nat _ _ HBb.out).mono ?_
          rintro e w1 ⟨rfl, hw⟩
          rw [hw, show decide (b / 64 = 2) = true from decide_eq_true HB.out]
          clear hw w1
          go_wp2_with fail
          go_ret2
          rw [HQ.out]
          first | exact ⟨rfl, Keeps.refl _ _⟩ | exact ⟨rfl, Ext.drew0 _⟩
      · have HB := Lib.hid hB
        have hd : decodeN l.length a b c d = (65533, 1) := by
          unfold decodeN
          rw [if_neg (by omega), if_neg (by omega), if_neg (by omega), if_neg (by omega)]
        have hq : sgn l = (0, 0) := by
          rw [HS.out, hd, if_pos rfl]
        clear hd
        have HQ := Lib.hid hq
        clear hq
        have g1 : ¬ (a : Int) < 128 := by omega
        have g2 : (192 : Int) ≤ (a : Int) := by omega
        have g3 : (a : Int) < 224 := by omega
        have g4 : ¬ (224 : Int) ≤ (a : Int) := by omega
        have g5 : ¬ (240 : Int) ≤ (a : Int) := by omega
        have gl : (2 : Int) ≤ (l.length : Int) := by omega
        have hi0 := HI0.out (by omega)
        have hi1 := HI1.out (by omega)
        clear h0
        have ka : (a : Int) < 256 := by omega
        try clear hA
        try clear hA2
        try clear hA3
        try clear hA4
        try clear hA5
        try clear hA'
        try clear hL
        try clear hB
        try clear hC
        try clear hD
        try clear hN
        try clear hM
        try clear hO
        clear hba hbb hbc hbd
        go_enter Tryz.func124, Tryz.ntmps124
        go_wp2_with fail
        refine (more_nat _ _ HBb.out).mono ?_
        rintro e w1 ⟨rfl, hw⟩
        rw [hw, show decide (b / 64 = 2) = false from decide_eq_false HB.out]
        clear hw w1
        go_wp2_with fail
        go_ret2
        rw [HQ.out]
        first | exact ⟨rfl, Keeps.refl _ _⟩ | exact ⟨rfl, Ext.drew0 _⟩
    · skip
      have hd : decodeN l.length a b c d = (65533, 1) := by
        unfold decodeN
        rw [if_neg (by omega), if_neg (by omega), if_neg (by omega), if_neg (by omega)]
      have hq : sgn l = (0, 0) := by
        rw [HS.out, hd, if_pos rfl]
      clear hd
      have HQ := Lib.hid hq
      clear hq
      have g1 : ¬ (a : Int) < 128 := by omega
      have g2 : (192 : Int) ≤ (a : Int) := by omega
      have g3 : (a : Int) < 224 := by omega
      have g4 : ¬ (224 : Int) ≤ (a : Int) := by omega
      have g5 : ¬ (240 : Int) ≤ (a : Int) := by omega
      have gl : ¬ (2 : Int) ≤ (l.length : Int) := by omega
      have hi0 := HI0.out (by omega)
      clear h0
      have ka : (a : Int) < 256 := by omega
      try clear hA
      try clear hA2
      try clear hA3
      try clear hA4
      try clear hA5
      try clear hA'
      try clear hL
      try clear hB
      try clear hC
      try clear hD
      try clear hN
      try clear hM
      try clear hO
      clear hba hbb hbc hbd
      go_enter Tryz.func124, Tryz.ntmps124
      go_wp2_with fail
      go_ret2
      rw [HQ.out]
      first | exact ⟨rfl, Keeps.refl _ _⟩ | exact ⟨rfl, Ext.drew0 _⟩
  by_cases hA4 : a < 240
  · by_cases hL : 3 ≤ l.length
    · by_cases hB : b / 64 = 2
      · have HB := Lib.hid hB
        by_cases hC : c / 64 = 2
        · have HC := Lib.hid hC
          obtain ⟨p, hnp⟩ : ∃ p : Nat, a = p + 224 := ⟨a - 224, by omega⟩
          obtain ⟨b1, hnb1⟩ : ∃ b1 : Nat, b = b1 + 128 := ⟨b - 128, by omega⟩
          obtain ⟨c1, hnc1⟩ : ∃ c1 : Nat, c = c1 + 128 := ⟨c - 128, by omega⟩
          obtain ⟨q, hnq⟩ : ∃ q : Nat, q = p * 64 := ⟨_, rfl⟩
          obtain ⟨r, hnr⟩ : ∃ r : Nat, r = q + b := ⟨_, rfl⟩
          obtain ⟨s, hns⟩ : ∃ s : Nat, s = q + b1 := ⟨_, rfl⟩
          obtain ⟨t, hnt⟩ : ∃ t : Nat, t = s * 64 := ⟨_, rfl⟩
          obtain ⟨u, hnu⟩ : ∃ u : Nat, u = t + c := ⟨_, rfl⟩
          obtain ⟨n, hnn⟩ : ∃ n : Nat, n = t + c1 := ⟨_, rfl⟩
          by_cases hN : 2048 ≤ n
          · by_cases hM : n < 55296
            · skip
              have hd : decodeN l.length a b c d = (n, 3) := by
                unfold decodeN
                rw [if_neg (by omega), if_neg (by omega), if_pos ⟨by omega, ⟨by omega, hB⟩, by omega, hC⟩, if_pos (by omega)]
                exact Prod.ext (by show _ = n; omega) rfl
              have hq : sgn l = (n, 3) := by
                rw [HS.out, hd, if_neg (fun h => by have := congrArg Prod.snd h; simp at this)]
              clear hd
              have HQ := Lib.hid hq
              clear hq
              have g1 : ¬ (a : Int) < 128 := by omega
              have g2 : (192 : Int) ≤ (a : Int) := by omega
              have g3 : ¬ (a : Int) < 224 := by omega
              have g4 : (224 : Int) ≤ (a : Int) := by omega
              have g5 : (a : Int) < 240 := by omega
              have g6 : ¬ (240 : Int) ≤ (a : Int) := by omega
              have gl : (3 : Int) ≤ (l.length : Int) := by omega
              have gn : (2048 : Int) ≤ ((((a : Int) - 224) * 64 + (b : Int) - 128) * 64 + (c : Int) - 128) := by omega
              have gm : ((((a : Int) - 224) * 64 + (b : Int) - 128) * 64 + (c : Int) - 128) < 55296 := by omega
              have hi0 := HI0.out (by omega)
              have hi1 := HI1.out (by omega)
              have hi2 := HI2.out (by omega)
              have HE := Lib.hid (show (n : Int) = ((((a : Int) - 224) * 64 + (b : Int) - 128) * 64 + (c : Int) - 128) from by omega)
              clear hnp hnb1 hnc1 hnq hnr hns hnt hnu hnn h0
              have kb : (128 : Int) ≤ (b : Int) ∧ (b : Int) < 192 := by omega
              have kb1 := kb.1
              have kb2 := kb.2
              clear kb
              have kc : (128 : Int) ≤ (c : Int) ∧ (c : Int) < 192 := by omega
              have kc1 := kc.1
              have kc2 := kc.2
              clear kc
              have ka : (a : Int) < 256 := by omega
              try clear hA
              try clear hA2
              try clear hA3
              try clear hA4
              try clear hA5
              try clear hA'
              try clear hL
              try clear hB
              try clear hC
              try clear hD
              try clear hN
              try clear hM
              try clear hO
              clear hba hbb hbc hbd
              go_enter Tryz.func124, Tryz.ntmps124
              go_wp2_with fail
              refine (more_nat _ _ HBb.out).mono ?_
              rintro e w1 ⟨rfl, hw⟩
              rw [hw, show decide (b / 64 = 2) = true from decide_eq_true HB.out]
              clear hw w1
              go_wp2_with fail
              refine (more_nat _ _ HBc.out).mono ?_
              rintro e w1 ⟨rfl, hw⟩
              rw [hw, show decide (c / 64 = 2) = true from decide_eq_true HC.out]
              clear hw w1
              go_wp2_with fail
              have hE0 : Keeps NoB w w.drew := (Keeps.refl _ _).drew
              refine wp_region_plan [(0, 0), (0, 1), (0, 2), (0, 3), (0, 4), (3, 5), (0, 6), (0, 7), (0, 8), (0, 9), (0, 10), (3, 11), (0, 12), (0, 13), (0, 14)] [] [] [] (ClsE w) (by kernel_rfl) (by kernel_rfl) (by kernel_rfl) rfl rfl (ClsE.of hE0) (fun _ _ _ d _ h => by cases d <;> exact h) ?_; simp only [planL, nL]
              refine pM _ rfl rfl ?_; simp only [nP, nE]
              iterate 2 (refine pR (v := ?_) rfl (fun W => ?_) ?_; rotate_left; (go_simp <;> with_reducible rfl); simp only [nP])
              refine pM _ rfl rfl ?_; simp only [nP, nE]
              refine pR (v := ?_) rfl (fun W => ?_) ?_; rotate_left; (go_simp <;> with_reducible rfl); simp only [nP]
              refine pX (v := ?_) rfl ?_ ?_; rotate_left; (go_simp <;> with_reducible rfl); simp only [nP]
              iterate 3 (refine pR (v := ?_) rfl (fun W => ?_) ?_; rotate_left; (go_simp <;> with_reducible rfl); simp only [nP])
              refine pM _ rfl rfl ?_; simp only [nP, nE]
              refine pR (v := ?_) rfl (fun W => ?_) ?_; rotate_left; (go_simp <;> with_reducible rfl); simp only [nP]
              refine pX (v := ?_) rfl ?_ ?_; rotate_left; (go_simp <;> with_reducible rfl); simp only [nP]
              iterate 2 (refine pR (v := ?_) rfl (fun W => ?_) ?_; rotate_left; (go_simp <;> with_reducible rfl); simp only [nP])
              refine pA _ rfl rfl ?_; simp only [nP, nE]
              refine plan_nil ?_; simp only [tailL, List.filterMap_nil]
              go_wp2_with fail
              go_ret2
              rw [HQ.out]
              dsimp only
              rw [HE.out]
              first | exact ⟨rfl, Keeps.refl _ _⟩ | exact ⟨rfl, Ext.drew0 _⟩
            · by_cases hO : 57343 < n
              · skip
                have hd : decodeN l.length a b c d = (n, 3) := by
                  unfold decodeN
                  rw [if_neg (by omega), if_neg (by omega), if_pos ⟨by omega, ⟨by omega, hB⟩, by omega, hC⟩, if_pos (by omega)]
                  exact Prod.ext (by show _ = n; omega) rfl
                have hq : sgn l = (n, 3) := by
                  rw [HS.out, hd, if_neg (fun h => by have := congrArg Prod.snd h; simp at this)]
                clear hd
                have HQ := Lib.hid hq
                clear hq
                have g1 : ¬ (a : Int) < 128 := by omega
                have g2 : (192 : Int) ≤ (a : Int) := by omega
                have g3 : ¬ (a : Int) < 224 := by omega
                have g4 : (224 : Int) ≤ (a : Int) := by omega
                have g5 : (a : Int) < 240 := by omega
                have g6 : ¬ (240 : Int) ≤ (a : Int) := by omega
                have gl : (3 : Int) ≤ (l.length : Int) := by omega
                have gn : (2048 : Int) ≤ ((((a : Int) - 224) * 64 + (b : Int) - 128) * 64 + (c : Int) - 128) := by omega
                have gm : ¬ ((((a : Int) - 224) * 64 + (b : Int) - 128) * 64 + (c : Int) - 128) < 55296 := by omega
                have go : (57343 : Int) < ((((a : Int) - 224) * 64 + (b : Int) - 128) * 64 + (c : Int) - 128) := by omega
                have hi0 := HI0.out (by omega)
                have hi1 := HI1.out (by omega)
                have hi2 := HI2.out (by omega)
                have HE := Lib.hid (show (n : Int) = ((((a : Int) - 224) * 64 + (b : Int) - 128) * 64 + (c : Int) - 128) from by omega)
                clear hnp hnb1 hnc1 hnq hnr hns hnt hnu hnn h0
                have kb : (128 : Int) ≤ (b : Int) ∧ (b : Int) < 192 := by omega
                have kb1 := kb.1
                have kb2 := kb.2
                clear kb
                have kc : (128 : Int) ≤ (c : Int) ∧ (c : Int) < 192 := by omega
                have kc1 := kc.1
                have kc2 := kc.2
                clear kc
                have ka : (a : Int) < 256 := by omega
                try clear hA
                try clear hA2
                try clear hA3
                try clear hA4
                try clear hA5
                try clear hA'
                try clear hL
                try clear hB
                try clear hC
                try clear hD
                try clear hN
                try clear hM
                try clear hO
                clear hba hbb hbc hbd
                go_enter Tryz.func124, Tryz.ntmps124
                go_wp2_with fail
                refine (more_nat _ _ HBb.out).mono ?_
                rintro e w1 ⟨rfl, hw⟩
                rw [hw, show decide (b / 64 = 2) = true from decide_eq_true HB.out]
                clear hw w1
                go_wp2_with fail
                refine (more_nat _ _ HBc.out).mono ?_
                rintro e w1 ⟨rfl, hw⟩
                rw [hw, show decide (c / 64 = 2) = true from decide_eq_true HC.out]
                clear hw w1
                go_wp2_with fail
                have hE0 : Keeps NoB w w.drew := (Keeps.refl _ _).drew
                refine wp_region_plan [(0, 0), (0, 1), (0, 2), (0, 3), (0, 4), (3, 5), (0, 6), (0, 7), (0, 8), (0, 9), (0, 10), (3, 11), (0, 12), (0, 13), (0, 14)] [] [] [] (ClsE w) (by kernel_rfl) (by kernel_rfl) (by kernel_rfl) rfl rfl (ClsE.of hE0) (fun _ _ _ d _ h => by cases d <;> exact h) ?_; simp only [planL, nL]
                refine pM _ rfl rfl ?_; simp only [nP, nE]
                iterate 2 (refine pR (v := ?_) rfl (fun W => ?_) ?_; rotate_left; (go_simp <;> with_reducible rfl); simp only [nP])
                refine pM _ rfl rfl ?_; simp only [nP, nE]
                refine pR (v := ?_) rfl (fun W => ?_) ?_; rotate_left; (go_simp <;> with_reducible rfl); simp only [nP]
                refine pX (v := ?_) rfl ?_ ?_; rotate_left; (go_simp <;> with_reducible rfl); simp only [nP]
                iterate 3 (refine pR (v := ?_) rfl (fun W => ?_) ?_; rotate_left; (go_simp <;> with_reducible rfl); simp only [nP])
                refine pM _ rfl rfl ?_; simp only [nP, nE]
                refine pR (v := ?_) rfl (fun W => ?_) ?_; rotate_left; (go_simp <;> with_reducible rfl); simp only [nP]
                refine pX (v := ?_) rfl ?_ ?_; rotate_left; (go_simp <;> with_reducible rfl); simp only [nP]
                iterate 2 (refine pR (v := ?_) rfl (fun W => ?_) ?_; rotate_left; (go_simp <;> with_reducible rfl); simp only [nP])
                refine pA _ rfl rfl ?_; simp only [nP, nE]
                refine plan_nil ?_; simp only [tailL, List.filterMap_nil]
                go_wp2_with fail
                go_ret2
                rw [HQ.out]
                dsimp only
                rw [HE.out]
                first | exact ⟨rfl, Keeps.refl _ _⟩ | exact ⟨rfl, Ext.drew0 _⟩
              · skip
                have hd : decodeN l.length a b c d = (65533, 1) := by
                  unfold decodeN
                  rw [if_neg (by omega), if_neg (by omega), if_pos ⟨by omega, ⟨by omega, hB⟩, by omega, hC⟩, if_neg (by omega)]
                have hq : sgn l = (0, 0) := by
                  rw [HS.out, hd, if_pos rfl]
                clear hd
                have HQ := Lib.hid hq
                clear hq
                have g1 : ¬ (a : Int) < 128 := by omega
                have g2 : (192 : Int) ≤ (a : Int) := by omega
                have g3 : ¬ (a : Int) < 224 := by omega
                have g4 : (224 : Int) ≤ (a : Int) := by omega
                have g5 : (a : Int) < 240 := by omega
                have g6 : ¬ (240 : Int) ≤ (a : Int) := by omega
                have gl : (3 : Int) ≤ (l.length : Int) := by omega
                have gn : (2048 : Int) ≤ ((((a : Int) - 224) * 64 + (b : Int) - 128) * 64 + (c : Int) - 128) := by omega
                have gm : ¬ ((((a : Int) - 224) * 64 + (b : Int) - 128) * 64 + (c : Int) - 128) < 55296 := by omega
                have go : ¬ (57343 : Int) < ((((a : Int) - 224) * 64 + (b : Int) - 128) * 64 + (c : Int) - 128) := by omega
                have hi0 := HI0.out (by omega)
                have hi1 := HI1.out (by omega)
                have hi2 := HI2.out (by omega)
                clear hnp hnb1 hnc1 hnq hnr hns hnt hnu hnn h0
                have kb : (128 : Int) ≤ (b : Int) ∧ (b : Int) < 192 := by omega
                have kb1 := kb.1
                have kb2 := kb.2
                clear kb
                have kc : (128 : Int) ≤ (c : Int) ∧ (c : Int) < 192 := by omega
                have kc1 := kc.1
                have kc2 := kc.2
                clear kc
                have ka : (a : Int) < 256 := by omega
                try clear hA
                try clear hA2
                try clear hA3
                try clear hA4
                try clear hA5
                try clear hA'
                try clear hL
                try clear hB
                try clear hC
                try clear hD
                try clear hN
                try clear hM
                try clear hO
                clear hba hbb hbc hbd
                go_enter Tryz.func124, Tryz.ntmps124
                go_wp2_with fail
                refine (more_nat _ _ HBb.out).mono ?_
                rintro e w1 ⟨rfl, hw⟩
                rw [hw, show decide (b / 64 = 2) = true from decide_eq_true HB.out]
                clear hw w1
                go_wp2_with fail
                refine (more_nat _ _ HBc.out).mono ?_
                rintro e w1 ⟨rfl, hw⟩
                rw [hw, show decide (c / 64 = 2) = true from decide_eq_true HC.out]
                clear hw w1
                go_wp2_with fail
                have hE0 : Keeps NoB w w.drew := (Keeps.refl _ _).drew
                refine wp_region_plan [(0, 0), (0, 1), (0, 2), (0, 3), (0, 4), (3, 5), (0, 6), (0, 7), (0, 8), (0, 9), (0, 10), (3, 11), (0, 12), (0, 13), (0, 14)] [] [] [] (ClsE w) (by kernel_rfl) (by kernel_rfl) (by kernel_rfl) rfl rfl (ClsE.of hE0) (fun _ _ _ d _ h => by cases d <;> exact h) ?_; simp only [planL, nL]
                refine pM _ rfl rfl ?_; simp only [nP, nE]
                iterate 2 (refine pR (v := ?_) rfl (fun W => ?_) ?_; rotate_left; (go_simp <;> with_reducible rfl); simp only [nP])
                refine pM _ rfl rfl ?_; simp only [nP, nE]
                refine pR (v := ?_) rfl (fun W => ?_) ?_; rotate_left; (go_simp <;> with_reducible rfl); simp only [nP]
                refine pX (v := ?_) rfl ?_ ?_; rotate_left; (go_simp <;> with_reducible rfl); simp only [nP]
                iterate 3 (refine pR (v := ?_) rfl (fun W => ?_) ?_; rotate_left; (go_simp <;> with_reducible rfl); simp only [nP])
                refine pM _ rfl rfl ?_; simp only [nP, nE]
                refine pR (v := ?_) rfl (fun W => ?_) ?_; rotate_left; (go_simp <;> with_reducible rfl); simp only [nP]
                refine pX (v := ?_) rfl ?_ ?_; rotate_left; (go_simp <;> with_reducible rfl); simp only [nP]
                iterate 2 (refine pR (v := ?_) rfl (fun W => ?_) ?_; rotate_left; (go_simp <;> with_reducible rfl); simp only [nP])
                refine pA _ rfl rfl ?_; simp only [nP, nE]
                refine plan_nil ?_; simp only [tailL, List.filterMap_nil]
                go_wp2_with fail
                go_ret2
                rw [HQ.out]
                first | exact ⟨rfl, Keeps.refl _ _⟩ | exact ⟨rfl, Ext.drew0 _⟩
          · skip
            have hd : decodeN l.length a b c d = (65533, 1) := by
              unfold decodeN
              rw [if_neg (by omega), if_neg (by omega), if_pos ⟨by omega, ⟨by omega, hB⟩, by omega, hC⟩, if_neg (by omega)]
            have hq : sgn l = (0, 0) := by
              rw [HS.out, hd, if_pos rfl]
            clear hd
            have HQ := Lib.hid hq
            clear hq
            have g1 : ¬ (a : Int) < 128 := by omega
            have g2 : (192 : Int) ≤ (a : Int) := by omega
            have g3 : ¬ (a : Int) < 224 := by omega
            have g4 : (224 : Int) ≤ (a : Int) := by omega
            have g5 : (a : Int) < 240 := by omega
            have g6 : ¬ (240 : Int) ≤ (a : Int) := by omega
            have gl : (3 : Int) ≤ (l.length : Int) := by omega
            have gn : ¬ (2048 : Int) ≤ ((((a : Int) - 224) * 64 + (b : Int) - 128) * 64 + (c : Int) - 128) := by omega
            have hi0 := HI0.out (by omega)
            have hi1 := HI1.out (by omega)
            have hi2 := HI2.out (by omega)
            clear hnp hnb1 hnc1 hnq hnr hns hnt hnu hnn h0
            have kb : (128 : Int) ≤ (b : Int) ∧ (b : Int) < 192 := by omega
            have kb1 := kb.1
            have kb2 := kb.2
            clear kb
            have kc : (128 : Int) ≤ (c : Int) ∧ (c : Int) < 192 := by omega
            have kc1 := kc.1
            have kc2 := kc.2
            clear kc
            have ka : (a : Int) < 256 := by omega
            try clear hA
            try clear hA2
            try clear hA3
            try clear hA4
            try clear hA5
            try clear hA'
            try clear hL
            try clear hB
            try clear hC
            try clear hD
            try clear hN
            try clear hM
            try clear hO
            clear hba hbb hbc hbd
            go_enter Tryz.func124, Tryz.ntmps124
            go_wp2_with fail
            refine (more_nat _ _ HBb.out).mono ?_
            rintro e w1 ⟨rfl, hw⟩
            rw [hw, show decide (b / 64 = 2) = true from decide_eq_true HB.out]
            clear hw w1
            go_wp2_with fail
            refine (more_nat _ _ HBc.out).mono ?_
            rintro e w1 ⟨rfl, hw⟩
            rw [hw, show decide (c / 64 = 2) = true from decide_eq_true HC.out]
            clear hw w1
            go_wp2_with fail
            have hE0 : Keeps NoB w w.drew := (Keeps.refl _ _).drew
            refine wp_region_plan [(0, 0), (0, 1), (0, 2), (0, 3), (0, 4), (3, 5), (0, 6), (0, 7), (0, 8), (0, 9), (0, 10), (3, 11), (0, 12), (0, 13), (0, 14)] [] [] [] (ClsE w) (by kernel_rfl) (by kernel_rfl) (by kernel_rfl) rfl rfl (ClsE.of hE0) (fun _ _ _ d _ h => by cases d <;> exact h) ?_; simp only [planL, nL]
            refine pM _ rfl rfl ?_; simp only [nP, nE]
            iterate 2 (refine pR (v := ?_) rfl (fun W => ?_) ?_; rotate_left; (go_simp <;> with_reducible rfl); simp only [nP])
            refine pM _ rfl rfl ?_; simp only [nP, nE]
            refine pR (v := ?_) rfl (fun W => ?_) ?_; rotate_left; (go_simp <;> with_reducible rfl); simp only [nP]
            refine pX (v := ?_) rfl ?_ ?_; rotate_left; (go_simp <;> with_reducible rfl); simp only [nP]
            iterate 3 (refine pR (v := ?_) rfl (fun W => ?_) ?_; rotate_left; (go_simp <;> with_reducible rfl); simp only [nP])
            refine pM _ rfl rfl ?_; simp only [nP, nE]
            refine pR (v := ?_) rfl (fun W => ?_) ?_; rotate_left; (go_simp <;> with_reducible rfl); simp only [nP]
            refine pX (v := ?_) rfl ?_ ?_; rotate_left; (go_simp <;> with_reducible rfl); simp only [nP]
            iterate 2 (refine pR (v := ?_) rfl (fun W => ?_) ?_; rotate_left; (go_simp <;> with_reducible rfl); simp only [nP])
            refine pA _ rfl rfl ?_; simp only [nP, nE]
            refine plan_nil ?_; simp only [tailL, List.filterMap_nil]
            go_wp2_with fail
            go_ret2
            rw [HQ.out]
            first | exact ⟨rfl, Keeps.refl _ _⟩ | exact ⟨rfl, Ext.drew0 _⟩
        · have HC := Lib.hid hC
          have hd : decodeN l.length a b c d = (65533, 1) := by
            unfold decodeN
            rw [if_neg (by omega), if_neg (by omega), if_neg (by omega), if_neg (by omega)]
          have hq : sgn l = (0, 0) := by
            rw [HS.out, hd, if_pos rfl]
          clear hd
          have HQ := Lib.hid hq
          clear hq
          have g1 : ¬ (a : Int) < 128 := by omega
          have g2 : (192 : Int) ≤ (a : Int) := by omega
          have g3 : ¬ (a : Int) < 224 := by omega
          have g4 : (224 : Int) ≤ (a : Int) := by omega
          have g5 : (a : Int) < 240 := by omega
          have g6 : ¬ (240 : Int) ≤ (a : Int) := by omega
          have gl : (3 : Int) ≤ (l.length : Int) := by omega
          have hi0 := HI0.out (by omega)
          have hi1 := HI1.out (by omega)
          have hi2 := HI2.out (by omega)
          clear h0
          have kb : (128 : Int) ≤ (b : Int) ∧ (b : Int) < 192 := by omega
          have kb1 := kb.1
          have kb2 := kb.2
          clear kb
          have ka : (a : Int) < 256 := by omega
          try clear hA
          try clear hA2
          try clear hA3
          try clear hA4
          try clear hA5
          try clear hA'
          try clear hL
          try clear hB
          try clear hC
          try clear hD
          try clear hN
          try clear hM
          try clear hO
          clear hba hbb hbc hbd
          go_enter Tryz.func124, Tryz.ntmps124
          go_wp2_with fail
          refine (more_nat _ _ HBb.out).mono ?_
          rintro e w1 ⟨rfl, hw⟩
          rw [hw, show decide (b / 64 = 2) = true from decide_eq_true HB.out]
          clear hw w1
          go_wp2_with fail
          refine (more_nat _ _ HBc.out).mono ?_
          rintro e w1 ⟨rfl, hw⟩
          rw [hw, show decide (c / 64 = 2) = false from decide_eq_false HC.out]
          clear hw w1
          go_wp2_with fail
          go_ret2
          rw [HQ.out]
          first | exact ⟨rfl, Keeps.refl _ _⟩ | exact ⟨rfl, Ext.drew0 _⟩
      · have HB := Lib.hid hB
        have hd : decodeN l.length a b c d = (65533, 1) := by
          unfold decodeN
          rw [if_neg (by omega), if_neg (by omega), if_neg (by omega), if_neg (by omega)]
        have hq : sgn l = (0, 0) := by
          rw [HS.out, hd, if_pos rfl]
        clear hd
        have HQ := Lib.hid hq
        clear hq
        have g1 : ¬ (a : Int) < 128 := by omega
        have g2 : (192 : Int) ≤ (a : Int) := by omega
        have g3 : ¬ (a : Int) < 224 := by omega
        have g4 : (224 : Int) ≤ (a : Int) := by omega
        have g5 : (a : Int) < 240 := by omega
        have g6 : ¬ (240 : Int) ≤ (a : Int) := by omega
        have gl : (3 : Int) ≤ (l.length : Int) := by omega
        have hi0 := HI0.out (by omega)
        have hi1 := HI1.out (by omega)
        clear h0
        have ka : (a : Int) < 256 := by omega
        try clear hA
        try clear hA2
        try clear hA3
        try clear hA4
        try clear hA5
        try clear hA'
        try clear hL
        try clear hB
        try clear hC
        try clear hD
        try clear hN
        try clear hM
        try clear hO
        clear hba hbb hbc hbd
        go_enter Tryz.func124, Tryz.ntmps124
        go_wp2_with fail
        refine (more_nat _ _ HBb.out).mono ?_
        rintro e w1 ⟨rfl, hw⟩
        rw [hw, show decide (b / 64 = 2) = false from decide_eq_false HB.out]
        clear hw w1
        go_wp2_with fail
        go_ret2
        rw [HQ.out]
        first | exact ⟨rfl, Keeps.refl _ _⟩ | exact ⟨rfl, Ext.drew0 _⟩
    · skip
      have hd : decodeN l.length a b c d = (65533, 1) := by
        unfold decodeN
        rw [if_neg (by omega), if_neg (by omega), if_neg (by omega), if_neg (by omega)]
      have hq : sgn l = (0, 0) := by
        rw [HS.out, hd, if_pos rfl]
      clear hd
      have HQ := Lib.hid hq
      clear hq
      have g1 : ¬ (a : Int) < 128 := by omega
      have g2 : (192 : Int) ≤ (a : Int) := by omega
      have g3 : ¬ (a : Int) < 224 := by omega
      have g4 : (224 : Int) ≤ (a : Int) := by omega
      have g5 : (a : Int) < 240 := by omega
      have g6 : ¬ (240 : Int) ≤ (a : Int) := by omega
      have gl : ¬ (3 : Int) ≤ (l.length : Int) := by omega
      have hi0 := HI0.out (by omega)
      clear h0
      have ka : (a : Int) < 256 := by omega
      try clear hA
      try clear hA2
      try clear hA3
      try clear hA4
      try clear hA5
      try clear hA'
      try clear hL
      try clear hB
      try clear hC
      try clear hD
      try clear hN
      try clear hM
      try clear hO
      clear hba hbb hbc hbd
      go_enter Tryz.func124, Tryz.ntmps124
      go_wp2_with fail
      go_ret2
      rw [HQ.out]
      first | exact ⟨rfl, Keeps.refl _ _⟩ | exact ⟨rfl, Ext.drew0 _⟩
  by_cases hA5 : a < 248
  · by_cases hL : 4 ≤ l.length
    · by_cases hB : b / 64 = 2
      · have HB := Lib.hid hB
        by_cases hC : c / 64 = 2
        · have HC := Lib.hid hC
          by_cases hD : d / 64 = 2
          · have HD := Lib.hid hD
            obtain ⟨p, hnp⟩ : ∃ p : Nat, a = p + 240 := ⟨a - 240, by omega⟩
            obtain ⟨b1, hnb1⟩ : ∃ b1 : Nat, b = b1 + 128 := ⟨b - 128, by omega⟩
            obtain ⟨c1, hnc1⟩ : ∃ c1 : Nat, c = c1 + 128 := ⟨c - 128, by omega⟩
            obtain ⟨d1, hnd1⟩ : ∃ d1 : Nat, d = d1 + 128 := ⟨d - 128, by omega⟩
            obtain ⟨q, hnq⟩ : ∃ q : Nat, q = p * 64 := ⟨_, rfl⟩
            obtain ⟨r, hnr⟩ : ∃ r : Nat, r = q + b := ⟨_, rfl⟩
            obtain ⟨s, hns⟩ : ∃ s : Nat, s = q + b1 := ⟨_, rfl⟩
            obtain ⟨t, hnt⟩ : ∃ t : Nat, t = s * 64 := ⟨_, rfl⟩
            obtain ⟨u, hnu⟩ : ∃ u : Nat, u = t + c := ⟨_, rfl⟩
            obtain ⟨x, hnx⟩ : ∃ x : Nat, x = t + c1 := ⟨_, rfl⟩
            obtain ⟨y, hny⟩ : ∃ y : Nat, y = x * 64 := ⟨_, rfl⟩
            obtain ⟨z, hnz⟩ : ∃ z : Nat, z = y + d := ⟨_, rfl⟩
            obtain ⟨n, hnn⟩ : ∃ n : Nat, n = y + d1 := ⟨_, rfl⟩
            by_cases hN : 65536 ≤ n
            · by_cases hM : n ≤ 1114111
              · skip
                have hd : decodeN l.length a b c d = (n, 4) := by
                  unfold decodeN
                  rw [if_neg (by omega), if_neg (by omega), if_neg (by omega), if_pos ⟨by omega, ⟨by omega, hB⟩, ⟨by omega, hC⟩, by omega, hD⟩, if_pos (by omega)]
                  exact Prod.ext (by show _ = n; omega) rfl
                have hq : sgn l = (n, 4) := by
                  rw [HS.out, hd, if_neg (fun h => by have := congrArg Prod.snd h; simp at this)]
                clear hd
                have HQ := Lib.hid hq
                clear hq
                have g1 : ¬ (a : Int) < 128 := by omega
                have g2 : (192 : Int) ≤ (a : Int) := by omega
                have g3 : ¬ (a : Int) < 224 := by omega
                have g4 : (224 : Int) ≤ (a : Int) := by omega
                have g5 : ¬ (a : Int) < 240 := by omega
                have g6 : (240 : Int) ≤ (a : Int) := by omega
                have g7 : (a : Int) < 248 := by omega
                have gl : (4 : Int) ≤ (l.length : Int) := by omega
                have gn : (65536 : Int) ≤ (((((a : Int) - 240) * 64 + (b : Int) - 128) * 64 + (c : Int) - 128) * 64 + (d : Int) - 128) := by omega
                have gm : (((((a : Int) - 240) * 64 + (b : Int) - 128) * 64 + (c : Int) - 128) * 64 + (d : Int) - 128) ≤ 1114111 := by omega
                have hi0 := HI0.out (by omega)
                have hi1 := HI1.out (by omega)
                have hi2 := HI2.out (by omega)
                have hi3 := HI3.out (by omega)
                have HE := Lib.hid (show (n : Int) = (((((a : Int) - 240) * 64 + (b : Int) - 128) * 64 + (c : Int) - 128) * 64 + (d : Int) - 128) from by omega)
                clear hnp hnb1 hnc1 hnd1 hnq hnr hns hnt hnu hnx hny hnz hnn h0
                have kb : (128 : Int) ≤ (b : Int) ∧ (b : Int) < 192 := by omega
                have kb1 := kb.1
                have kb2 := kb.2
                clear kb
                have kc : (128 : Int) ≤ (c : Int) ∧ (c : Int) < 192 := by omega
                have kc1 := kc.1
                have kc2 := kc.2
                clear kc
                have kd : (128 : Int) ≤ (d : Int) ∧ (d : Int) < 192 := by omega
                have kd1 := kd.1
                have kd2 := kd.2
                clear kd
                have ka : (a : Int) < 256 := by omega
                try clear hA
                try clear hA2
                try clear hA3
                try clear hA4
                try clear hA5
                try clear hA'
                try clear hL
                try clear hB
                try clear hC
                try clear hD
                try clear hN
                try clear hM
                try clear hO
                clear hba hbb hbc hbd
                go_enter Tryz.func124, Tryz.ntmps124
                go_wp2_with fail
                refine (more_nat _ _ HBb.out).mono ?_
                rintro e w1 ⟨rfl, hw⟩
                rw [hw, show decide (b / 64 = 2) = true from decide_eq_true HB.out]
                clear hw w1
                go_wp2_with fail
                refine (more_nat _ _ HBc.out).mono ?_
                rintro e w1 ⟨rfl, hw⟩
                rw [hw, show decide (c / 64 = 2) = true from decide_eq_true HC.out]
                clear hw w1
                go_wp2_with fail
                refine (more_nat _ _ HBd.out).mono ?_
                rintro e w1 ⟨rfl, hw⟩
                rw [hw, show decide (d / 64 = 2) = true from decide_eq_true HD.out]
                clear hw w1
                go_wp2_with fail
                have hE0 : Keeps NoB w w.drew := (Keeps.refl _ _).drew
                refine wp_region_plan [(0, 0), (0, 1), (0, 2), (0, 3), (0, 4), (3, 5), (0, 6), (0, 7), (0, 8), (0, 9), (0, 10), (3, 11), (0, 12), (0, 13), (0, 14), (0, 15), (0, 16), (3, 17), (0, 18), (0, 19), (0, 20)] [] [] [] (ClsE w) (by kernel_rfl) (by kernel_rfl) (by kernel_rfl) rfl rfl (ClsE.of hE0) (fun _ _ _ d _ h => by cases d <;> exact h) ?_; simp only [planL, nL]
                refine pM _ rfl rfl ?_; simp only [nP, nE]
                iterate 2 (refine pR (v := ?_) rfl (fun W => ?_) ?_; rotate_left; (go_simp <;> with_reducible rfl); simp only [nP])
                refine pM _ rfl rfl ?_; simp only [nP, nE]
                refine pR (v := ?_) rfl (fun W => ?_) ?_; rotate_left; (go_simp <;> with_reducible rfl); simp only [nP]
                refine pX (v := ?_) rfl ?_ ?_; rotate_left; (go_simp <;> with_reducible rfl); simp only [nP]
                iterate 3 (refine pR (v := ?_) rfl (fun W => ?_) ?_; rotate_left; (go_simp <;> with_reducible rfl); simp only [nP])
                refine pM _ rfl rfl ?_; simp only [nP, nE]
                refine pR (v := ?_) rfl (fun W => ?_) ?_; rotate_left; (go_simp <;> with_reducible rfl); simp only [nP]
                refine pX (v := ?_) rfl ?_ ?_; rotate_left; (go_simp <;> with_reducible rfl); simp only [nP]
                iterate 3 (refine pR (v := ?_) rfl (fun W => ?_) ?_; rotate_left; (go_simp <;> with_reducible rfl); simp only [nP])
                refine pM _ rfl rfl ?_; simp only [nP, nE]
                refine pR (v := ?_) rfl (fun W => ?_) ?_; rotate_left; (go_simp <;> with_reducible rfl); simp only [nP]
                refine pX (v := ?_) rfl ?_ ?_; rotate_left; (go_simp <;> with_reducible rfl); simp only [nP]
                iterate 2 (refine pR (v := ?_) rfl (fun W => ?_) ?_; rotate_left; (go_simp <;> with_reducible rfl); simp only [nP])
                refine pA _ rfl rfl ?_; simp only [nP, nE]
                refine plan_nil ?_; simp only [tailL, List.filterMap_nil]
                go_wp2_with fail
                go_ret2
                rw [HQ.out]
                dsimp only
                rw [HE.out]
                first | exact ⟨rfl, Keeps.refl _ _⟩ | exact ⟨rfl, Ext.drew0 _⟩
              · skip
                have hd : decodeN l.length a b c d = (65533, 1) := by
                  unfold decodeN
                  rw [if_neg (by omega), if_neg (by omega), if_neg (by omega), if_pos ⟨by omega, ⟨by omega, hB⟩, ⟨by omega, hC⟩, by omega, hD⟩, if_neg (by omega)]
                have hq : sgn l = (0, 0) := by
                  rw [HS.out, hd, if_pos rfl]
                clear hd
                have HQ := Lib.hid hq
                clear hq
                have g1 : ¬ (a : Int) < 128 := by omega
                have g2 : (192 : Int) ≤ (a : Int) := by omega
                have g3 : ¬ (a : Int) < 224 := by omega
                have g4 : (224 : Int) ≤ (a : Int) := by omega
                have g5 : ¬ (a : Int) < 240 := by omega
                have g6 : (240 : Int) ≤ (a : Int) := by omega
                have g7 : (a : Int) < 248 := by omega
                have gl : (4 : Int) ≤ (l.length : Int) := by omega
                have gn : (65536 : Int) ≤ (((((a : Int) - 240) * 64 + (b : Int) - 128) * 64 + (c : Int) - 128) * 64 + (d : Int) - 128) := by omega
                have gm : ¬ (((((a : Int) - 240) * 64 + (b : Int) - 128) * 64 + (c : Int) - 128) * 64 + (d : Int) - 128) ≤ 1114111 := by omega
                have hi0 := HI0.out (by omega)
                have hi1 := HI1.out (by omega)
                have hi2 := HI2.out (by omega)
                have hi3 := HI3.out (by omega)
                clear hnp hnb1 hnc1 hnd1 hnq hnr hns hnt hnu hnx hny hnz hnn h0
                have kb : (128 : Int) ≤ (b : Int) ∧ (b : Int) < 192 := by omega
                have kb1 := kb.1
                have kb2 := kb.2
                clear kb
                have kc : (128 : Int) ≤ (c : Int) ∧ (c : Int) < 192 := by omega
                have kc1 := kc.1
                have kc2 := kc.2
                clear kc
                have kd : (128 : Int) ≤ (d : Int) ∧ (d : Int) < 192 := by omega
                have kd1 := kd.1
                have kd2 := kd.2
                clear kd
                have ka : (a : Int) < 256 := by omega
                try clear hA
                try clear hA2
                try clear hA3
                try clear hA4
                try clear hA5
                try clear hA'
                try clear hL
                try clear hB
                try clear hC
                try clear hD
                try clear hN
                try clear hM
                try clear hO
                clear hba hbb hbc hbd
                go_enter Tryz.func124, Tryz.ntmps124
                go_wp2_with fail
                refine (more_nat _ _ HBb.out).mono ?_
                rintro e w1 ⟨rfl, hw⟩
                rw [hw, show decide (b / 64 = 2) = true from decide_eq_true HB.out]
                clear hw w1
                go_wp2_with fail
                refine (more_nat _ _ HBc.out).mono ?_
                rintro e w1 ⟨rfl, hw⟩
                rw [hw, show decide (c / 64 = 2) = true from decide_eq_true HC.out]
                clear hw w1
                go_wp2_with fail
                refine (more_nat _ _ HBd.out).mono ?_
                rintro e w1 ⟨rfl, hw⟩
                rw [hw, show decide (d / 64 = 2) = true from decide_eq_true HD.out]
                clear hw w1
                go_wp2_with fail
                have hE0 : Keeps NoB w w.drew := (Keeps.refl _ _).drew
                refine wp_region_plan [(0, 0), (0, 1), (0, 2), (0, 3), (0, 4), (3, 5), (0, 6), (0, 7), (0, 8), (0, 9), (0, 10), (3, 11), (0, 12), (0, 13), (0, 14), (0, 15), (0, 16), (3, 17), (0, 18), (0, 19), (0, 20)] [] [] [] (ClsE w) (by kernel_rfl) (by kernel_rfl) (by kernel_rfl) rfl rfl (ClsE.of hE0) (fun _ _ _ d _ h => by cases d <;> exact h) ?_; simp only [planL, nL]
                refine pM _ rfl rfl ?_; simp only [nP, nE]
                iterate 2 (refine pR (v := ?_) rfl (fun W => ?_) ?_; rotate_left; (go_simp <;> with_reducible rfl); simp only [nP])
                refine pM _ rfl rfl ?_; simp only [nP, nE]
                refine pR (v := ?_) rfl (fun W => ?_) ?_; rotate_left; (go_simp <;> with_reducible rfl); simp only [nP]
                refine pX (v := ?_) rfl ?_ ?_; rotate_left; (go_simp <;> with_reducible rfl); simp only [nP]
                iterate 3 (refine pR (v := ?_) rfl (fun W => ?_) ?_; rotate_left; (go_simp <;> with_reducible rfl); simp only [nP])
                refine pM _ rfl rfl ?_; simp only [nP, nE]
                refine pR (v := ?_) rfl (fun W => ?_) ?_; rotate_left; (go_simp <;> with_reducible rfl); simp only [nP]
                refine pX (v := ?_) rfl ?_ ?_; rotate_left; (go_simp <;> with_reducible rfl); simp only [nP]
                iterate 3 (refine pR (v := ?_) rfl (fun W => ?_) ?_; rotate_left; (go_simp <;> with_reducible rfl); simp only [nP])
                refine pM _ rfl rfl ?_; simp only [nP, nE]
                refine pR (v := ?_) rfl (fun W => ?_) ?_; rotate_left; (go_simp <;> with_reducible rfl); simp only [nP]
                refine pX (v := ?_) rfl ?_ ?_; rotate_left; (go_simp <;> with_reducible rfl); simp only [nP]
                iterate 2 (refine pR (v := ?_) rfl (fun W => ?_) ?_; rotate_left; (go_simp <;> with_reducible rfl); simp only [nP])
                refine pA _ rfl rfl ?_; simp only [nP, nE]
                refine plan_nil ?_; simp only [tailL, List.filterMap_nil]
                go_wp2_with fail
                go_ret2
                rw [HQ.out]
                first | exact ⟨rfl, Keeps.refl _ _⟩ | exact ⟨rfl, Ext.drew0 _⟩
            · skip
              have hd : decodeN l.length a b c d = (65533, 1) := by
                unfold decodeN
                rw [if_neg (by omega), if_neg (by omega), if_neg (by omega), if_pos ⟨by omega, ⟨by omega, hB⟩, ⟨by omega, hC⟩, by omega, hD⟩, if_neg (by omega)]
              have hq : sgn l = (0, 0) := by
                rw [HS.out, hd, if_pos rfl]
              clear hd
              have HQ := Lib.hid hq
              clear hq
              have g1 : ¬ (a : Int) < 128 := by omega
              have g2 : (192 : Int) ≤ (a : Int) := by omega
              have g3 : ¬ (a : Int) < 224 := by omega
              have g4 : (224 : Int) ≤ (a : Int) := by omega
              have g5 : ¬ (a : Int) < 240 := by omega
              have g6 : (240 : Int) ≤ (a : Int) := by omega
              have g7 : (a : Int) < 248 := by omega
              have gl : (4 : Int) ≤ (l.length : Int) := by omega
              have gn : ¬ (65536 : Int) ≤ (((((a : Int) - 240) * 64 + (b : Int) - 128) * 64 + (c : Int) - 128) * 64 + (d : Int) - 128) := by omega
              have hi0 := HI0.out (by omega)
              have hi1 := HI1.out (by omega)
              have hi2 := HI2.out (by omega)
              have hi3 := HI3.out (by omega)
              clear hnp hnb1 hnc1 hnd1 hnq hnr hns hnt hnu hnx hny hnz hnn h0
              have kb : (128 : Int) ≤ (b : Int) ∧ (b : Int) < 192 := by omega
              have kb1 := kb.1
              have kb2 := kb.2
              clear kb
              have kc : (128 : Int) ≤ (c : Int) ∧ (c : Int) < 192 := by omega
              have kc1 := kc.1
              have kc2 := kc.2
              clear kc
              have kd : (128 : Int) ≤ (d : Int) ∧ (d : Int) < 192 := by omega
              have kd1 := kd.1
              have kd2 := kd.2
              clear kd
              have ka : (a : Int) < 256 := by omega
              try clear hA
              try clear hA2
              try clear hA3
              try clear hA4
              try clear hA5
              try clear hA'
              try clear hL
              try clear hB
              try clear hC
              try clear hD
              try clear hN
              try clear hM
              try clear hO
              clear hba hbb hbc hbd
              go_enter Tryz.func124, Tryz.ntmps124
              go_wp2_with fail
              refine (more_nat _ _ HBb.out).mono ?_
              rintro e w1 ⟨rfl, hw⟩
              rw [hw, show decide (b / 64 = 2) = true from decide_eq_true HB.out]
              clear hw w1
              go_wp2_with fail
              refine (more_nat _ _ HBc.out).mono ?_
              rintro e w1 ⟨rfl, hw⟩
              rw [hw, show decide (c / 64 = 2) = true from decide_eq_true HC.out]
              clear hw w1
              go_wp2_with fail
              refine (more_nat _ _ HBd.out).mono ?_
              rintro e w1 ⟨rfl, hw⟩
              rw [hw, show decide (d / 64 = 2) = true from decide_eq_true HD.out]
              clear hw w1
              go_wp2_with fail
              have hE0 : Keeps NoB w w.drew := (Keeps.refl _ _).drew
              refine wp_region_plan [(0, 0), (0, 1), (0, 2), (0, 3), (0, 4), (3, 5), (0, 6), (0, 7), (0, 8), (0, 9), (0, 10), (3, 11), (0, 12), (0, 13), (0, 14), (0, 15), (0, 16), (3, 17), (0, 18), (0, 19), (0, 20)] [] [] [] (ClsE w) (by kernel_rfl) (by kernel_rfl) (by kernel_rfl) rfl rfl (ClsE.of hE0) (fun _ _ _ d _ h => by cases d <;> exact h) ?_; simp only [planL, nL]
              refine pM _ rfl rfl ?_; simp only [nP, nE]
              iterate 2 (refine pR (v := ?_) rfl (fun W => ?_) ?_; rotate_left; (go_simp <;> with_reducible rfl); simp only [nP])
              refine pM _ rfl rfl ?_; simp only [nP, nE]
              refine pR (v := ?_) rfl (fun W => ?_) ?_; rotate_left; (go_simp <;> with_reducible rfl); simp only [nP]
              refine pX (v := ?_) rfl ?_ ?_; rotate_left; (go_simp <;> with_reducible rfl); simp only [nP]
              iterate 3 (refine pR (v := ?_) rfl (fun W => ?_) ?_; rotate_left; (go_simp <;> with_reducible rfl); simp only [nP])
              refine pM _ rfl rfl ?_; simp only [nP, nE]
              refine pR (v := ?_) rfl (fun W => ?_) ?_; rotate_left; (go_simp <;> with_reducible rfl); simp only [nP]
              refine pX (v := ?_) rfl ?_ ?_; rotate_left; (go_simp <;> with_reducible rfl); simp only [nP]
              iterate 3 (refine pR (v := ?_) rfl (fun W => ?_) ?_; rotate_left; (go_simp <;> with_reducible rfl); simp only [nP])
              refine pM _ rfl rfl ?_; simp only [nP, nE]
              refine pR (v := ?_) rfl (fun W => ?_) ?_; rotate_left; (go_simp <;> with_reducible rfl); simp only [nP]
              refine pX (v := ?_) rfl ?_ ?_; rotate_left; (go_simp <;> with_reducible rfl); simp only [nP]
              iterate 2 (refine pR (v := ?_) rfl (fun W => ?_) ?_; rotate_left; (go_simp <;> with_reducible rfl); simp only [nP])
              refine pA _ rfl rfl ?_; simp only [nP, nE]
              refine plan_nil ?_; simp only [tailL, List.filterMap_nil]
              go_wp2_with fail
              go_ret2
              rw [HQ.out]
              first | exact ⟨rfl, Keeps.refl _ _⟩ | exact ⟨rfl, Ext.drew0 _⟩
          · have HD := Lib.hid hD
            have hd : decodeN l.length a b c d = (65533, 1) := by
              unfold decodeN
              rw [if_neg (by omega), if_neg (by omega), if_neg (by omega), if_neg (by omega)]
            have hq : sgn l = (0, 0) := by
              rw [HS.out, hd, if_pos rfl]
            clear hd
            have HQ := Lib.hid hq
            clear hq
            have g1 : ¬ (a : Int) < 128 := by omega
            have g2 : (192 : Int) ≤ (a : Int) := by omega
            have g3 : ¬ (a : Int) < 224 := by omega
            have g4 : (224 : Int) ≤ (a : Int) := by omega
            have g5 : ¬ (a : Int) < 240 := by omega
            have g6 : (240 : Int) ≤ (a : Int) := by omega
            have g7 : (a : Int) < 248 := by omega
            have gl : (4 : Int) ≤ (l.length : Int) := by omega
            have hi0 := HI0.out (by omega)
            have hi1 := HI1.out (by omega)
            have hi2 := HI2.out (by omega)
            have hi3 := HI3.out (by omega)
            clear h0
            have kb : (128 : Int) ≤ (b : Int) ∧ (b : Int) < 192 := by omega
            have kb1 := kb.1
            have kb2 := kb.2
            clear kb
            have kc : (128 : Int) ≤ (c : Int) ∧ (c : Int) < 192 := by omega
            have kc1 := kc.1
            have kc2 := kc.2
            clear kc
            have ka : (a : Int) < 256 := by omega
            try clear hA
            try clear hA2
            try clear hA3
            try clear hA4
            try clear hA5
            try clear hA'
            try clear hL
            try clear hB
            try clear hC
            try clear hD
            try clear hN
            try clear hM
            try clear hO
            clear hba hbb hbc hbd
            go_enter Tryz.func124, Tryz.ntmps124
            go_wp2_with fail
            refine (more_nat _ _ HBb.out).mono ?_
            rintro e w1 ⟨rfl, hw⟩
            rw [hw, show decide (b / 64 = 2) = true from decide_eq_true HB.out]
            clear hw w1
            go_wp2_with fail
            refine (more_nat _ _ HBc.out).mono ?_
            rintro e w1 ⟨rfl, hw⟩
            rw [hw, show decide (c / 64 = 2) = true from decide_eq_true HC.out]
            clear hw w1
            go_wp2_with fail
            refine (more_nat _ _ HBd.out).mono ?_
            rintro e w1 ⟨rfl, hw⟩
            rw [hw, show decide (d / 64 = 2) = false from decide_eq_false HD.out]
            clear hw w1
            go_wp2_with fail
            go_ret2
            rw [HQ.out]
            first | exact ⟨rfl, Keeps.refl _ _⟩ | exact ⟨rfl, Ext.drew0 _⟩
        · have HC := Lib.hid hC
          have hd : decodeN l.length a b c d = (65533, 1) := by
            unfold decodeN
            rw [if_neg (by omega), if_neg (by omega), if_neg (by omega), if_neg (by omega)]
          have hq : sgn l = (0, 0) := by
            rw [HS.out, hd, if_pos rfl]
          clear hd
          have HQ := Lib.hid hq
          clear hq
          have g1 : ¬ (a : Int) < 128 := by omega
          have g2 : (192 : Int) ≤ (a : Int) := by omega
          have g3 : ¬ (a : Int) < 224 := by omega
          have g4 : (224 : Int) ≤ (a : Int) := by omega
          have g5 : ¬ (a : Int) < 240 := by omega
          have g6 : (240 : Int) ≤ (a : Int) := by omega
          have g7 : (a : Int) < 248 := by omega
          have gl : (4 : Int) ≤ (l.length : Int) := by omega
          have hi0 := HI0.out (by omega)
          have hi1 := HI1.out (by omega)
          have hi2 := HI2.out (by omega)
          clear h0
          have kb : (128 : Int) ≤ (b : Int) ∧ (b : Int) < 192 := by omega
          have kb1 := kb.1
          have kb2 := kb.2
          clear kb
          have ka : (a : Int) < 256 := by omega
          try clear hA
          try clear hA2
          try clear hA3
          try clear hA4
          try clear hA5
          try clear hA'
          try clear hL
          try clear hB
          try clear hC
          try clear hD
          try clear hN
          try clear hM
          try clear hO
          clear hba hbb hbc hbd
          go_enter Tryz.func124, Tryz.ntmps124
          go_wp2_with fail
          refine (more_nat _ _ HBb.out).mono ?_
          rintro e w1 ⟨rfl, hw⟩
          rw [hw, show decide (b / 64 = 2) = true from decide_eq_true HB.out]
          clear hw w1
          go_wp2_with fail
          refine (more_nat _ _ HBc.out).mono ?_
          rintro e w1 ⟨rfl, hw⟩
          rw [hw, show decide (c / 64 = 2) = false from decide_eq_false HC.out]
          clear hw w1
          go_wp2_with fail
          go_ret2
          rw [HQ.out]
          first | exact ⟨rfl, Keeps.refl _ _⟩ | exact ⟨rfl, Ext.drew0 _⟩
      · have HB := Lib.hid hB
        have hd : decodeN l.length a b c d = (65533, 1) := by
          unfold decodeN
          rw [if_neg (by omega), if_neg (by omega), if_neg (by omega), if_neg (by omega)]
        have hq : sgn l = (0, 0) := by
          rw [HS.out, hd, if_pos rfl]
        clear hd
        have HQ := Lib.hid hq
        clear hq
        have g1 : ¬ (a : Int) < 128 := by omega
        have g2 : (192 : Int) ≤ (a : Int) := by omega
        have g3 : ¬ (a : Int) < 224 := by omega
        have g4 : (224 : Int) ≤ (a : Int) := by omega
        have g5 : ¬ (a : Int) < 240 := by omega
        have g6 : (240 : Int) ≤ (a : Int) := by omega
        have g7 : (a : Int) < 248 := by omega
        have gl : (4 : Int) ≤ (l.length : Int) := by omega
        have hi0 := HI0.out (by omega)
        have hi1 := HI1.out (by omega)
        clear h0
        have ka : (a : Int) < 256 := by omega
        try clear hA
        try clear hA2
        try clear hA3
        try clear hA4
        try clear hA5
        try clear hA'
        try clear hL
        try clear hB
        try clear hC
        try clear hD
        try clear hN
        try clear hM
        try clear hO
        clear hba hbb hbc hbd
        go_enter Tryz.func124, Tryz.ntmps124
        go_wp2_with fail
        refine (more_nat _ _ HBb.out).mono ?_
        rintro e w1 ⟨rfl, hw⟩
        rw [hw, show decide (b / 64 = 2) = false from decide_eq_false HB.out]
        clear hw w1
        go_wp2_with fail
        go_ret2
        rw [HQ.out]
        first | exact ⟨rfl, Keeps.refl _ _⟩ | exact ⟨rfl, Ext.drew0 _⟩
    · skip
      have hd : decodeN l.length a b c d = (65533, 1) := by
        unfold decodeN
        rw [if_neg (by omega), if_neg (by omega), if_neg (by omega), if_neg (by omega)]
      have hq : sgn l = (0, 0) := by
        rw [HS.out, hd, if_pos rfl]
      clear hd
      have HQ := Lib.hid hq
      clear hq
      have g1 : ¬ (a : Int) < 128 := by omega
      have g2 : (192 : Int) ≤ (a : Int) := by omega
      have g3 : ¬ (a : Int) < 224 := by omega
      have g4 : (224 : Int) ≤ (a : Int) := by omega
      have g5 : ¬ (a : Int) < 240 := by omega
      have g6 : (240 : Int) ≤ (a : Int) := by omega
      have g7 : (a : Int) < 248 := by omega
      have gl : ¬ (4 : Int) ≤ (l.length : Int) := by omega
      have hi0 := HI0.out (by omega)
      clear h0
      have ka : (a : Int) < 256 := by omega
      try clear hA
      try clear hA2
      try clear hA3
      try clear hA4
      try clear hA5
      try clear hA'
      try clear hL
      try clear hB
      try clear hC
      try clear hD
      try clear hN
      try clear hM
      try clear hO
      clear hba hbb hbc hbd
      go_enter Tryz.func124, Tryz.ntmps124
      go_wp2_with fail
      go_ret2
      rw [HQ.out]
      first | exact ⟨rfl, Keeps.refl _ _⟩ | exact ⟨rfl, Ext.drew0 _⟩
  have hd : decodeN l.length a b c d = (65533, 1) := by
    unfold decodeN
    rw [if_neg (by omega), if_neg (by omega), if_neg (by omega), if_neg (by omega)]
  have hq : sgn l = (0, 0) := by
    rw [HS.out, hd, if_pos rfl]
  clear hd
  have HQ := Lib.hid hq
  clear hq
  have g1 : ¬ (a : Int) < 128 := by omega
  have g2 : (192 : Int) ≤ (a : Int) := by omega
  have g3 : ¬ (a : Int) < 224 := by omega
  have g4 : (224 : Int) ≤ (a : Int) := by omega
  have g5 : ¬ (a : Int) < 240 := by omega
  have g6 : (240 : Int) ≤ (a : Int) := by omega
  have g7 : ¬ (a : Int) < 248 := by omega
  have hi0 := HI0.out (by omega)
  clear h0
  have ka : (a : Int) < 256 := by omega
  try clear hA
  try clear hA2
  try clear hA3
  try clear hA4
  try clear hA5
  try clear hA'
  try clear hL
  try clear hB
  try clear hC
  try clear hD
  try clear hN
  try clear hM
  try clear hO
  clear hba hbb hbc hbd
  go_enter Tryz.func124, Tryz.ntmps124
  go_wp2_with fail
  go_ret2
  rw [HQ.out]
  first | exact ⟨rfl, Keeps.refl _ _⟩ | exact ⟨rfl, Ext.drew0 _⟩
theorem sign_any (w : World) (l : List UInt8) (hl : l ≠ []) :
    Calls Tryz.prog 124 #[.string (bs l)] w fun e w' => e = .returned (.tuple #[.int .i64 ((sgn l).1 : Int), .int .i64 ((sgn l).2 : Int)]) ∧ Ext w w' :=
  sign_core w l _ _ _ _ (Lib.hid (UInt8.toNat_lt _)) (Lib.hid (UInt8.toNat_lt _)) (Lib.hid (UInt8.toNat_lt _)) (Lib.hid (UInt8.toNat_lt _)) (List.length_pos_iff.2 hl) (Lib.hid (sgn_N l))
    (Lib.hid fun h => index_bs l 0 h) (Lib.hid fun h => index_bs l 1 h) (Lib.hid fun h => index_bs l 2 h) (Lib.hid fun h => index_bs l 3 h)
end Go.Proofs.YtcfgnbbiljohjaaGreatDoor
end
