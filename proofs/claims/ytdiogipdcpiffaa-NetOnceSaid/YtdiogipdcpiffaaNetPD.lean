/- The arms [4, 5] of the walk of NetOnce. -/
import Derived.Test.YtdiogipdcpiffaaNetP
set_option linter.unusedVariables false
set_option maxHeartbeats 400000
set_option maxRecDepth 10000
namespace Go.Proofs.Ytdiogipdcpiffaa
open Go.RowKit

set_option maxRecDepth 100000 in
set_option maxHeartbeats 4000000 in
theorem once_arm4 {A : Nat → Prop} (w : World) (v : Value) (l : List Ac) (HV0 : Hid (Acts w A v l)) (HOK : Hid (∀ x ∈ l, x.ok)) (hn : l.length ≤ 9223372036854775807) (HB : Hid (∀ x ∈ l, x.bytes.length ≤ 9223372036854775807)) (hf : fewOf l 50 = true) (HA : Hid (∀ k, A k → k < w.heap.size)) :
    (once_cut w v l HV0 HOK hn HB hf HA).P4 := by
  delta once_cut
  intro hl50 c HS Q' w1 b K wr u2 u8 u9 u10 u11 u12 u13 u14 u15 u24 u25 u26 u27 u28 u29 u30 u31 u32 u33 u34 u35 u36 u37 u38 u39 u40 u41 u42 u43 u44 u45 u46 u47 u48 u49 u50 u51 u52 u53 u54 u55 u56 u57 u58 u59 u60 u61 u62 u63 u64 u65 u66 u67 u68 u69 u70 u71 u72 u73 u74 u75 u76 u77 u78 u79 u80 u81 u82 u83 u84 u85 u86 u87 u88 u89 u90 u91 u92 u93 u94 u95 u96 u97 u98 u99 u100 u101 u102 u103 u104 u105 u106 u107 u108 u109 u110 u111 u112 u113 u114 u115 u116 u117 u118 u119 u120 u121 u122 u123 u124 u125 u126 u127 u128 u129 u130 u131 u132 u133 u134 u135 u136 u137 u138 u139 u140 u141 u142 u143 u144 u145 u146 u147 u148 u149 u150 u151 u152 u153 u154 u155 u156 u157 u158 u159 u160 u161 u162 u163 u164 u165 u166 u167 u168 u169 u170 u171 u172 u173 k hk N put gone F M cs hpl hgl HI hcame HFR ap cp ag cg HO hlt bb o HV HAT hc hAb hbb a4 n4 xs xd xp xb xi hxl i1 i2 i3 i5 i4 H1 H2 H3 HX hbw i0 e0 b0 e1 b1 e2 b2 he
  have hgot := NA.got_at (p := xp) he
  obtain ⟨y, hy⟩ : ∃ y, N.got xs xd xp = y := ⟨_, rfl⟩
  have hr : N.dropR xs xd xp = (N.without (N.iOf xs xd xp), y.num, 0) := by unfold NA.dropR; rw [if_pos he, hy]
  rw [hy] at hgot
  have hyp : y.num < put.length := HI.out.lt (List.mem_of_getElem? hgot)
  have HI' := Lib.hid (HI.out.without _ y hgot)
  have HG := Lib.hid (show ∀ g ∈ gone, g ≠ y.num from fun g hg h => (HI.out.gn g hg).2 y (List.mem_of_getElem? hgot) h.symm)
  have HR := Lib.hid hr
  clear hr hgot hy he
  go_wp2_with fail
  have bx0 := (Box.new wr 36 [.int .i64 3, .int .i64 xs, .int .i64 xd, .int .i64 xp, .slice a4 xb.length n4, .bool xi])
  have ex : Ext wr (wr.alloc (Obj.cells #[.int .i64 3, .int .i64 xs, .int .i64 xd, .int .i64 xp, .slice a4 xb.length n4, .bool xi] 36)) := ((Keeps.refl NoB wr).alloc _)
  have sx : (wr.alloc (Obj.cells #[.int .i64 3, .int .i64 xs, .int .i64 xd, .int .i64 xp, .slice a4 xb.length n4, .bool xi] 36)).heap.size = wr.heap.size + 1 := by simp
  generalize (wr.alloc (Obj.cells #[.int .i64 3, .int .i64 xs, .int .i64 xd, .int .i64 xp, .slice a4 xb.length n4, .bool xi] 36)) = w2 at bx0 ex sx ⊢
  have Sx := Lib.hid sx
  clear sx
  have BX := Lib.hid bx0
  have h12 := ex.size
  replace HO := Lib.hid (HO.out.ext ex)
  replace HX := Lib.hid (HX.out.ext ex)
  clear ex bx0 i0 i1 i2 i3 i4 i5
  refine (drop_any w2 b N xs xd xp HO.out.rig.net H3.out _ y.num 0 0 y.num HR.out rfl rfl).mono ?_
  rintro e w3 ⟨F', M', rfl, hn3, hs⟩
  have HO3 := Lib.hid (HO.out.step hn3 hs)
  clear hn3 hs HO BX
  go_wp2_with fail
  refine (num_any _ _).mono ?_
  rintro e w' ⟨rfl, rfl⟩
  go_wp2_with fail
  have hyn : ¬ ((y.num : Int) < 0) := by omega
  have hyl : ¬ ((put.length : Int) ≤ (y.num : Int)) := by omega
  go_loop [15] (fun i => ∃ j : Nat, j ≤ gone.length ∧ i = .int .i64 j) (fun i => gone.length - (intOf i).toNat)
  case atStart => exact ⟨0, Nat.zero_le _, rfl⟩
  case round =>
    obtain ⟨j, hj, rfl⟩ := hrel
    by_cases hjl : j < gone.length
    · obtain ⟨g, o2, cap, hv, hg1, hg2, hg3, hg4⟩ := HO3.out.gw.form (by omega)
      simp only [Value.slice.injEq] at hv
      obtain ⟨rfl, -, rfl⟩ := hv
      have hcj := hg4 j (intV gone[j]) (by rw [List.getElem?_map, List.getElem?_eq_getElem hjl]; rfl)
      unfold intV at hcj
      have hne := HG.out gone[j] (List.getElem_mem hjl)
      obtain ⟨gg, hgg⟩ : ∃ gg, gone[j] = gg := ⟨_, rfl⟩
      rw [hgg] at hcj hne
      have hne2 : ((gg : Int) == (y.num : Int)) = false := beq_eq_false_iff_ne.2 (by omega)
      clear hg4 hgg hne
      go_wp2_with fail
      go_round
      case rel => exact ⟨j + 1, by omega, by go_num⟩
      case measure => simp [intOf]; omega
    · obtain rfl : j = gone.length := by omega
      go_wp2_with (at_builtin; refine standing ?_)
      have bz0 := (Box.new w3 2 [.int .i64 (y.num : Int)])
      have ez : Ext w3 (w3.alloc (Obj.cells #[.int .i64 (y.num : Int)] 2)) := ((Keeps.refl NoB w3).alloc _)
      have sz : (w3.alloc (Obj.cells #[.int .i64 (y.num : Int)] 2)).heap.size = w3.heap.size + 1 := by simp
      generalize (w3.alloc (Obj.cells #[.int .i64 (y.num : Int)] 2)) = w4 at bz0 ez sz ⊢
      have Sz := Lib.hid sz
      clear sz
      have HO4 := Lib.hid (HO3.out.ext ez)
      have hbase := HO4.out.rig.E.size
      obtain ⟨v9, w9, hr9, hwin9, hk9, ho9⟩ := append_long w4 w.heap.size _ gone 58 HO4.out.gw y.num w3.heap.size bz0 (by omega) hbase
      obtain ⟨M5, ho9'⟩ := HO4.out.away hk9 hwin9 ho9
      have HR9 : Hid (OMX w w9 A b (.slice ap put.length cp) v9 (k + 1)) := Lib.hid ⟨_, _, _, _, _, _, ho9', HI'.out, by omega, by rw [List.length_append]; simp; omega⟩
      obtain ⟨a5, c5, rfl⟩ := hwin9.len
      have hl5 : (gone ++ [y.num]).length = gone.length + 1 := by simp
      rw [hl5] at HR9
      clear hl5
      clear ez bz0 hwin9 hk9 ho9 ho9'
      refine ⟨?_⟩
      refine wpList_append_ran rfl _ _ hr9 rfl rfl rfl ?_
      clear hr9
      go_wp2_with fail
      go_roundw
      case rel => exact ⟨k + 1, by omega, by go_num, HR9⟩
      case measure => simp [intOf]; omega
set_option maxRecDepth 100000 in
set_option maxHeartbeats 4000000 in
theorem once_arm5 {A : Nat → Prop} (w : World) (v : Value) (l : List Ac) (HV0 : Hid (Acts w A v l)) (HOK : Hid (∀ x ∈ l, x.ok)) (hn : l.length ≤ 9223372036854775807) (HB : Hid (∀ x ∈ l, x.bytes.length ≤ 9223372036854775807)) (hf : fewOf l 50 = true) (HA : Hid (∀ k, A k → k < w.heap.size)) :
    (once_cut w v l HV0 HOK hn HB hf HA).P5 := by
  delta once_cut
  intro hl50 c HS Q' w1 b K wr u2 u8 u9 u10 u11 u12 u13 u14 u15 u24 u25 u26 u27 u28 u29 u30 u31 u32 u33 u34 u35 u36 u37 u38 u39 u40 u41 u42 u43 u44 u45 u46 u47 u48 u49 u50 u51 u52 u53 u54 u55 u56 u57 u58 u59 u60 u61 u62 u63 u64 u65 u66 u67 u68 u69 u70 u71 u72 u73 u74 u75 u76 u77 u78 u79 u80 u81 u82 u83 u84 u85 u86 u87 u88 u89 u90 u91 u92 u93 u94 u95 u96 u97 u98 u99 u100 u101 u102 u103 u104 u105 u106 u107 u108 u109 u110 u111 u112 u113 u114 u115 u116 u117 u118 u119 u120 u121 u122 u123 u124 u125 u126 u127 u128 u129 u130 u131 u132 u133 u134 u135 u136 u137 u138 u139 u140 u141 u142 u143 u144 u145 u146 u147 u148 u149 u150 u151 u152 u153 u154 u155 u156 u157 u158 u159 u160 u161 u162 u163 u164 u165 u166 u167 u168 u169 u170 u171 u172 u173 k hk N put gone F M cs hpl hgl HI hcame HFR ap cp ag cg HO hlt bb o HV HAT hc hAb hbb a4 n4 xs xd xp xb xi hxl i1 i2 i3 i5 i4 H1 H2 H3 HX hbw i0 e0 b0 e1 b1 e2 b2 he
  have hr : N.dropR xs xd xp = (N, 0, N.pickErr xs xd) := by unfold NA.dropR; rw [if_neg he]
  obtain ⟨kk, hkk⟩ : ∃ kk, N.pickErr xs xd = kk := ⟨_, rfl⟩
  rw [hkk] at he hr
  have HR := Lib.hid hr
  have hke2 : ((kk : Int) != 0) = true := by rw [bne_iff_ne]; omega
  clear hr hkk
  go_wp2_with fail
  have bx0 := (Box.new wr 36 [.int .i64 3, .int .i64 xs, .int .i64 xd, .int .i64 xp, .slice a4 xb.length n4, .bool xi])
  have ex : Ext wr (wr.alloc (Obj.cells #[.int .i64 3, .int .i64 xs, .int .i64 xd, .int .i64 xp, .slice a4 xb.length n4, .bool xi] 36)) := ((Keeps.refl NoB wr).alloc _)
  have sx : (wr.alloc (Obj.cells #[.int .i64 3, .int .i64 xs, .int .i64 xd, .int .i64 xp, .slice a4 xb.length n4, .bool xi] 36)).heap.size = wr.heap.size + 1 := by simp
  generalize (wr.alloc (Obj.cells #[.int .i64 3, .int .i64 xs, .int .i64 xd, .int .i64 xp, .slice a4 xb.length n4, .bool xi] 36)) = w2 at bx0 ex sx ⊢
  have Sx := Lib.hid sx
  clear sx
  have BX := Lib.hid bx0
  have h12 := ex.size
  replace HO := Lib.hid (HO.out.ext ex)
  replace HX := Lib.hid (HX.out.ext ex)
  clear ex bx0 i0 i1 i2 i3 i4 i5
  refine (drop_any w2 b N xs xd xp HO.out.rig.net H3.out N 0 kk kk 0 HR.out rfl rfl).mono ?_
  rintro e w3 ⟨F', M', rfl, hn3, hs⟩
  have HO3 : Hid (OMX w w3 A b (.slice ap put.length cp) (.slice ag gone.length cg) (k + 1)) := Lib.hid ⟨_, _, _, _, _, _, HO.out.step hn3 hs, HI.out, by omega, by omega⟩
  clear hn3 hs HO BX
  go_wp2_with fail
  refine (num_any _ _).mono ?_
  rintro e w' ⟨rfl, rfl⟩
  go_wp2_with fail
  go_roundw
  case rel => exact ⟨k + 1, by omega, by go_num, HO3⟩
  case measure => simp [intOf]; omega
end Go.Proofs.Ytdiogipdcpiffaa
