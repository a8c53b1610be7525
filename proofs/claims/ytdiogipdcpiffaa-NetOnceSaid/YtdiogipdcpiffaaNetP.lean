/- The walk of NetOnce with its arms left open: holes. -/
import Derived.Test.YtdiogipdcpiffaaNetO
import Derived.Test.YtdiogipdcpiffaaNetN
import Derived.Test.YtdiogipdcpiffaaPlanB
set_option linter.unusedVariables false
set_option maxHeartbeats 400000
set_option maxRecDepth 10000
namespace Go.Proofs.Ytdiogipdcpiffaa
open Go.RowKit

theorem once_few {A : Nat → Prop} (w : World) (v : Value) (l : List Ac) (h : Acts w A v l) (hn : l.length ≤ 9223372036854775807) (hb : ∀ x ∈ l, x.bytes.length ≤ 9223372036854775807) (hf : fewOf l 50 = false) :
    Calls Try.prog 6 #[v] w fun e w' => e = .returned (.bool true) ∧ Ext w w' := by
  have HA := Lib.hid h
  have HB := Lib.hid hb
  obtain ⟨a, c, rfl, -⟩ := h.at
  clear h hb
  go_enter Try.func6, Try.ntmps6
  go_wp2_with fail
  refine (few_any _ _ l 50 HA.out hn HB.out).mono ?_
  rintro e w' ⟨rfl, rfl⟩
  rw [hf]
  go_wp2_with fail
  refine (works_any _).mono ?_
  rintro e w' ⟨rfl, hE⟩
  have HE := Lib.hid hE
  clear hE
  go_wp2_with fail
  go_ret
  exact ⟨rfl, HE.out⟩

def OMX (w0 w : World) (A : Nat → Prop) (b : Nat) (pv gv : Value) (k : Nat) : Prop := ∃ N put gone F M cs, OM w0 w A b pv gv N put gone F M cs ∧ OInv N put gone ∧ put.length ≤ k ∧ gone.length ≤ k
/-- what is left to show of 'G', and that it is enough -/
structure Cut6 (G : Prop) where
  (P0 P1 P2 P3 P4 P5 : Prop)
  go : P0 → P1 → P2 → P3 → P4 → P5 → G
set_option maxRecDepth 100000 in
set_option maxHeartbeats 4000000 in
noncomputable def once_cut {A : Nat → Prop} (w : World) (v : Value) (l : List Ac) (HV0 : Hid (Acts w A v l)) (HOK : Hid (∀ x ∈ l, x.ok)) (hn : l.length ≤ 9223372036854775807) (HB : Hid (∀ x ∈ l, x.bytes.length ≤ 9223372036854775807)) (hf : fewOf l 50 = true) (HA : Hid (∀ k, A k → k < w.heap.size)) :
    Cut6 (Calls Try.prog 6 #[v] w fun e w' => e = .returned (.bool true) ∧ Ext w w') := by
  apply Cut6.mk
  case go =>
    intro p0 p1 p2 p3 p4 p5
    obtain ⟨hs200, hl50⟩ := few_spec hf
    obtain ⟨a, c, hv, hat⟩ := HV0.out.at
    have HV : Hid (Acts w A (.slice a l.length c) l) := Lib.hid (hv ▸ HV0.out)
    rw [hv]
    have HAT := Lib.hid hat
    have HS := Lib.hid hs200
    clear hat hs200 hv
    go_enter Try.func6, Try.ntmps6
    go_wp2_with fail
    refine (few_any _ _ l 50 HV.out hn HB.out).mono ?_
    rintro e w' ⟨rfl, rfl⟩
    rw [hf]
    go_wp2_with fail
    refine (new_any w 4 20 4 20 rfl rfl (by decide) (by decide) (by decide) (by decide)).mono ?_
    rintro e w1 ⟨b, rfl, hnx, hE⟩
    have HM0 : Hid (OMX w w1 A b (.slice none 0 0) (.slice none 0 0) 0) := Lib.hid ⟨_, [], [], _, _, [], ⟨⟨hnx, fun k hk => hk.1, hE⟩, Win.nil _ _ _, RowOf.nil, Win.nil _ _ _, fun g hg => by simp [Value.ownBlock] at hg, fun g hg => by simp [Value.ownBlock] at hg, fun g hg => by simp [Value.ownBlock] at hg, HA.out⟩, OInv.start 4 20, Nat.le_refl _, Nat.le_refl _⟩
    clear hnx hE
    go_wp2_with fail
    go_loopw [5, 6, 7] (fun pv gv i wr => ∃ k : Nat, k ≤ l.length ∧ i = .int .i64 k ∧ Hid (OMX w wr A b pv gv k)) (fun _ _ i _ => l.length - (intOf i).toNat)
    case atStart => exact ⟨0, Nat.zero_le _, rfl, HM0⟩
    case round =>
      obtain ⟨k, hk, rfl, hm⟩ := hrel
      obtain ⟨N, put, gone, F, M, cs, hom, hinv, hpl, hgl⟩ := hm.out
      have HO := Lib.hid hom
      have HI := Lib.hid hinv
      have hcame : N.came ≤ 1000000 := by rw [hinv.came]; omega
      have hfresh : ¬ M wr.heap.size := hom.rig.new _ (Nat.le_refl _)
      have HFR := Lib.hid hfresh
      obtain ⟨ap, cp, rfl⟩ := hom.pw.len
      obtain ⟨ag, cg, rfl⟩ := hom.gw.len
      clear hom hm HM0 hinv hfresh
      by_cases hlt : k < l.length
      · obtain ⟨bb, o, rfl, hc, hAb, hact⟩ := HAT.out k hlt
        have hact' := hact.keeps HO.out.rig.E (noB _) (fun _ _ => noB _)
        have hbb := HA.out bb hAb
        have hxl := HS.out _ (List.getElem_mem hlt)
        have hxo := HOK.out _ (List.getElem_mem hlt)
        generalize l[k] = x at hact hact' hxl hxo
        obtain ⟨i0, i1, i2, i3, i5, a4, n4, i4, i6⟩ := hact'.reads
        obtain ⟨xw, xs, xd, xp, xb, xi⟩ := x
        dsimp only at i0 i1 i2 i3 i4 i5 i6 hxl
        obtain ⟨ho1, ho2, ho3⟩ := hxo
        dsimp only at ho1 ho2 ho3
        have H1 := Lib.hid ho1
        have H2 := Lib.hid ho2
        have H3 := Lib.hid ho3
        have HX := Lib.hid i6
        have hbw : bb < wr.heap.size := by have := HO.out.rig.E.size; omega
        clear hact hact' i6 ho1 ho2 ho3
        by_cases e0 : xw = 0
        · subst e0
          by_cases he : N.putErr xs xd xb.length = 0
          · rename_i Q' K ak
            clear ak
            revert hl50 c HS Q' w1 b K wr u2 u8 u9 u10 u11 u12 u13 u14 u15 u24 u25 u26 u27 u28 u29 u30 u31 u32 u33 u34 u35 u36 u37 u38 u39 u40 u41 u42 u43 u44 u45 u46 u47 u48 u49 u50 u51 u52 u53 u54 u55 u56 u57 u58 u59 u60 u61 u62 u63 u64 u65 u66 u67 u68 u69 u70 u71 u72 u73 u74 u75 u76 u77 u78 u79 u80 u81 u82 u83 u84 u85 u86 u87 u88 u89 u90 u91 u92 u93 u94 u95 u96 u97 u98 u99 u100 u101 u102 u103 u104 u105 u106 u107 u108 u109 u110 u111 u112 u113 u114 u115 u116 u117 u118 u119 u120 u121 u122 u123 u124 u125 u126 u127 u128 u129 u130 u131 u132 u133 u134 u135 u136 u137 u138 u139 u140 u141 u142 u143 u144 u145 u146 u147 u148 u149 u150 u151 u152 u153 u154 u155 u156 u157 u158 u159 u160 u161 u162 u163 u164 u165 u166 u167 u168 u169 u170 u171 u172 u173 k hk N put gone F M cs hpl hgl HI hcame HFR ap cp ag cg HO hlt bb o HV HAT hc hAb hbb a4 n4 xs xd xp xb xi hxl i1 i2 i3 i5 i4 H1 H2 H3 HX hbw i0 he
            exact p0
          · rename_i Q' K ak
            clear ak
            revert hl50 c HS Q' w1 b K wr u2 u8 u9 u10 u11 u12 u13 u14 u15 u24 u25 u26 u27 u28 u29 u30 u31 u32 u33 u34 u35 u36 u37 u38 u39 u40 u41 u42 u43 u44 u45 u46 u47 u48 u49 u50 u51 u52 u53 u54 u55 u56 u57 u58 u59 u60 u61 u62 u63 u64 u65 u66 u67 u68 u69 u70 u71 u72 u73 u74 u75 u76 u77 u78 u79 u80 u81 u82 u83 u84 u85 u86 u87 u88 u89 u90 u91 u92 u93 u94 u95 u96 u97 u98 u99 u100 u101 u102 u103 u104 u105 u106 u107 u108 u109 u110 u111 u112 u113 u114 u115 u116 u117 u118 u119 u120 u121 u122 u123 u124 u125 u126 u127 u128 u129 u130 u131 u132 u133 u134 u135 u136 u137 u138 u139 u140 u141 u142 u143 u144 u145 u146 u147 u148 u149 u150 u151 u152 u153 u154 u155 u156 u157 u158 u159 u160 u161 u162 u163 u164 u165 u166 u167 u168 u169 u170 u171 u172 u173 k hk N put gone F M cs hpl hgl HI hcame HFR ap cp ag cg HO hlt bb o HV HAT hc hAb hbb a4 n4 xs xd xp xb xi hxl i1 i2 i3 i5 i4 H1 H2 H3 HX hbw i0 he
            exact p1
        · have b0 : (xw == 0) = false := beq_eq_false_iff_ne.2 e0
          by_cases e1 : xw = 1
          · subst e1
            go_wp2_with fail
            have bx0 := (Box.new wr 36 [.int .i64 1, .int .i64 xs, .int .i64 xd, .int .i64 xp, .slice a4 xb.length n4, .bool xi])
            have ex : Ext wr (wr.alloc (Obj.cells #[.int .i64 1, .int .i64 xs, .int .i64 xd, .int .i64 xp, .slice a4 xb.length n4, .bool xi] 36)) := ((Keeps.refl NoB wr).alloc _)
            have sx : (wr.alloc (Obj.cells #[.int .i64 1, .int .i64 xs, .int .i64 xd, .int .i64 xp, .slice a4 xb.length n4, .bool xi] 36)).heap.size = wr.heap.size + 1 := by simp
            generalize (wr.alloc (Obj.cells #[.int .i64 1, .int .i64 xs, .int .i64 xd, .int .i64 xp, .slice a4 xb.length n4, .bool xi] 36)) = w2 at bx0 ex sx ⊢
            have Sx := Lib.hid sx
            clear sx
            have BX := Lib.hid bx0
            have h12 := ex.size
            replace HO := Lib.hid (HO.out.ext ex)
            replace HX := Lib.hid (HX.out.ext ex)
            clear ex bx0 i0 i1 i2 i3 i4 i5
            have HO3 : Hid (OMX w w2 A b (.slice ap put.length cp) (.slice ag gone.length cg) (k + 1)) := Lib.hid ⟨_, _, _, _, _, _, HO.out, HI.out, by omega, by omega⟩
            go_roundw
            case rel => exact ⟨k + 1, by omega, by go_num, HO3⟩
            case measure => simp [intOf]; omega
          have b1 : (xw == 1) = false := beq_eq_false_iff_ne.2 e1
          by_cases e2 : xw = 2
          · subst e2
            by_cases he : N.peekErr xs xd xp = 0
            · rename_i Q' K ak
              clear ak
              revert hl50 c HS Q' w1 b K wr u2 u8 u9 u10 u11 u12 u13 u14 u15 u24 u25 u26 u27 u28 u29 u30 u31 u32 u33 u34 u35 u36 u37 u38 u39 u40 u41 u42 u43 u44 u45 u46 u47 u48 u49 u50 u51 u52 u53 u54 u55 u56 u57 u58 u59 u60 u61 u62 u63 u64 u65 u66 u67 u68 u69 u70 u71 u72 u73 u74 u75 u76 u77 u78 u79 u80 u81 u82 u83 u84 u85 u86 u87 u88 u89 u90 u91 u92 u93 u94 u95 u96 u97 u98 u99 u100 u101 u102 u103 u104 u105 u106 u107 u108 u109 u110 u111 u112 u113 u114 u115 u116 u117 u118 u119 u120 u121 u122 u123 u124 u125 u126 u127 u128 u129 u130 u131 u132 u133 u134 u135 u136 u137 u138 u139 u140 u141 u142 u143 u144 u145 u146 u147 u148 u149 u150 u151 u152 u153 u154 u155 u156 u157 u158 u159 u160 u161 u162 u163 u164 u165 u166 u167 u168 u169 u170 u171 u172 u173 k hk N put gone F M cs hpl hgl HI hcame HFR ap cp ag cg HO hlt bb o HV HAT hc hAb hbb a4 n4 xs xd xp xb xi hxl i1 i2 i3 i5 i4 H1 H2 H3 HX hbw i0 e0 b0 e1 b1 he
              exact p2
            · rename_i Q' K ak
              clear ak
              revert hl50 c HS Q' w1 b K wr u2 u8 u9 u10 u11 u12 u13 u14 u15 u24 u25 u26 u27 u28 u29 u30 u31 u32 u33 u34 u35 u36 u37 u38 u39 u40 u41 u42 u43 u44 u45 u46 u47 u48 u49 u50 u51 u52 u53 u54 u55 u56 u57 u58 u59 u60 u61 u62 u63 u64 u65 u66 u67 u68 u69 u70 u71 u72 u73 u74 u75 u76 u77 u78 u79 u80 u81 u82 u83 u84 u85 u86 u87 u88 u89 u90 u91 u92 u93 u94 u95 u96 u97 u98 u99 u100 u101 u102 u103 u104 u105 u106 u107 u108 u109 u110 u111 u112 u113 u114 u115 u116 u117 u118 u119 u120 u121 u122 u123 u124 u125 u126 u127 u128 u129 u130 u131 u132 u133 u134 u135 u136 u137 u138 u139 u140 u141 u142 u143 u144 u145 u146 u147 u148 u149 u150 u151 u152 u153 u154 u155 u156 u157 u158 u159 u160 u161 u162 u163 u164 u165 u166 u167 u168 u169 u170 u171 u172 u173 k hk N put gone F M cs hpl hgl HI hcame HFR ap cp ag cg HO hlt bb o HV HAT hc hAb hbb a4 n4 xs xd xp xb xi hxl i1 i2 i3 i5 i4 H1 H2 H3 HX hbw i0 e0 b0 e1 b1 he
              exact p3
          have b2 : (xw == 2) = false := beq_eq_false_iff_ne.2 e2
          by_cases e3 : xw = 3
          · subst e3
            by_cases he : N.pickErr xs xd = 0
            · rename_i Q' K ak
              clear ak
              revert hl50 c HS Q' w1 b K wr u2 u8 u9 u10 u11 u12 u13 u14 u15 u24 u25 u26 u27 u28 u29 u30 u31 u32 u33 u34 u35 u36 u37 u38 u39 u40 u41 u42 u43 u44 u45 u46 u47 u48 u49 u50 u51 u52 u53 u54 u55 u56 u57 u58 u59 u60 u61 u62 u63 u64 u65 u66 u67 u68 u69 u70 u71 u72 u73 u74 u75 u76 u77 u78 u79 u80 u81 u82 u83 u84 u85 u86 u87 u88 u89 u90 u91 u92 u93 u94 u95 u96 u97 u98 u99 u100 u101 u102 u103 u104 u105 u106 u107 u108 u109 u110 u111 u112 u113 u114 u115 u116 u117 u118 u119 u120 u121 u122 u123 u124 u125 u126 u127 u128 u129 u130 u131 u132 u133 u134 u135 u136 u137 u138 u139 u140 u141 u142 u143 u144 u145 u146 u147 u148 u149 u150 u151 u152 u153 u154 u155 u156 u157 u158 u159 u160 u161 u162 u163 u164 u165 u166 u167 u168 u169 u170 u171 u172 u173 k hk N put gone F M cs hpl hgl HI hcame HFR ap cp ag cg HO hlt bb o HV HAT hc hAb hbb a4 n4 xs xd xp xb xi hxl i1 i2 i3 i5 i4 H1 H2 H3 HX hbw i0 e0 b0 e1 b1 e2 b2 he
              exact p4
            · rename_i Q' K ak
              clear ak
              revert hl50 c HS Q' w1 b K wr u2 u8 u9 u10 u11 u12 u13 u14 u15 u24 u25 u26 u27 u28 u29 u30 u31 u32 u33 u34 u35 u36 u37 u38 u39 u40 u41 u42 u43 u44 u45 u46 u47 u48 u49 u50 u51 u52 u53 u54 u55 u56 u57 u58 u59 u60 u61 u62 u63 u64 u65 u66 u67 u68 u69 u70 u71 u72 u73 u74 u75 u76 u77 u78 u79 u80 u81 u82 u83 u84 u85 u86 u87 u88 u89 u90 u91 u92 u93 u94 u95 u96 u97 u98 u99 u100 u101 u102 u103 u104 u105 u106 u107 u108 u109 u110 u111 u112 u113 u114 u115 u116 u117 u118 u119 u120 u121 u122 u123 u124 u125 u126 u127 u128 u129 u130 u131 u132 u133 u134 u135 u136 u137 u138 u139 u140 u141 u142 u143 u144 u145 u146 u147 u148 u149 u150 u151 u152 u153 u154 u155 u156 u157 u158 u159 u160 u161 u162 u163 u164 u165 u166 u167 u168 u169 u170 u171 u172 u173 k hk N put gone F M cs hpl hgl HI hcame HFR ap cp ag cg HO hlt bb o HV HAT hc hAb hbb a4 n4 xs xd xp xb xi hxl i1 i2 i3 i5 i4 H1 H2 H3 HX hbw i0 e0 b0 e1 b1 e2 b2 he
              exact p5
          have b3 : (xw == 3) = false := beq_eq_false_iff_ne.2 e3
          obtain ⟨r, hr⟩ : ∃ r, N.downR xs xd xi = r := ⟨_, rfl⟩
          obtain ⟨N', kk⟩ := r
          have HR := Lib.hid hr
          clear hr e0 e1 e2 e3
          go_wp2_with fail
          have bx0 := (Box.new wr 36 [.int .i64 xw, .int .i64 xs, .int .i64 xd, .int .i64 xp, .slice a4 xb.length n4, .bool xi])
          have ex : Ext wr (wr.alloc (Obj.cells #[.int .i64 xw, .int .i64 xs, .int .i64 xd, .int .i64 xp, .slice a4 xb.length n4, .bool xi] 36)) := ((Keeps.refl NoB wr).alloc _)
          have sx : (wr.alloc (Obj.cells #[.int .i64 xw, .int .i64 xs, .int .i64 xd, .int .i64 xp, .slice a4 xb.length n4, .bool xi] 36)).heap.size = wr.heap.size + 1 := by simp
          generalize (wr.alloc (Obj.cells #[.int .i64 xw, .int .i64 xs, .int .i64 xd, .int .i64 xp, .slice a4 xb.length n4, .bool xi] 36)) = w2 at bx0 ex sx ⊢
          have Sx := Lib.hid sx
          clear sx
          have BX := Lib.hid bx0
          have h12 := ex.size
          replace HO := Lib.hid (HO.out.ext ex)
          replace HX := Lib.hid (HX.out.ext ex)
          clear ex bx0 i0 i1 i2 i3 i4 i5
          refine (down_any w2 b N xs xd xi HO.out.rig.net H1.out H2.out N' kk kk HR.out rfl).mono ?_
          rintro e w3 ⟨rfl, hn3, hs⟩
          have HO3 : Hid (OMX w w3 A b (.slice ap put.length cp) (.slice ag gone.length cg) (k + 1)) := Lib.hid ⟨_, _, _, _, _, _, HO.out.step hn3 hs, by
            have := HI.out.down xs xd xi
            rw [HR.out] at this
            exact this, by omega, by omega⟩
          clear hn3 hs HO BX
          go_wp2_with fail
          go_roundw
          case rel => exact ⟨k + 1, by omega, by go_num, HO3⟩
          case measure => simp [intOf]; omega
      · as_aux_lemma =>
          obtain rfl : k = l.length := by omega
          have hcn := HI.out.cnt
          have hsub : IntKind.i64.wrap ((put.length : Int) - (gone.length : Int)) = (N.l.length : Int) := by rw [IntWalk.i64_in _ (by omega)]; omega
          have hce := HI.out.came
          have HCE := Lib.hid hce
          clear hcn hce
          go_wp2_with fail
          refine (num_any _ _).mono ?_
          rintro e w' ⟨rfl, rfl⟩
          go_wp2_with fail
          refine (len_any wr b N (-1) (-1) HO.out.rig.net N.l.length N.l.length (NA.len_all N) rfl).mono ?_
          rintro e w3 ⟨rfl, hE⟩
          replace HO := Lib.hid (HO.out.ext hE)
          clear hE
          have hq1 : ((N.l.length : Int) == (N.l.length : Int)) = true := by simp
          go_wp2_with fail
          refine (came_any w3 b N HO.out.rig.net).mono ?_
          rintro e w' ⟨rfl, rfl⟩
          rw [HCE.out]
          have hq2 : ((put.length : Int) == (put.length : Int)) = true := by simp
          go_wp2_with fail
          refine (works_any _).mono ?_
          rintro e w4 ⟨rfl, hE⟩
          replace HO := Lib.hid (HO.out.ext hE)
          clear hE
          go_wp2_with fail
          go_ret
          exact ⟨rfl, HO.out.rig.E⟩
end Go.Proofs.Ytdiogipdcpiffaa
