/- The arms [0, 1] of the walk of NetOnce. -/
import Derived.Test.YtdiogipdcpiffaaNetP
set_option linter.unusedVariables false
set_option maxHeartbeats 400000
set_option maxRecDepth 10000
namespace Go.Proofs.Ytdiogipdcpiffaa
open Go.RowKit

set_option maxRecDepth 100000 in
set_option maxHeartbeats 4000000 in
theorem once_arm0 {A : Nat → Prop} (w : World) (v : Value) (l : List Ac) (HV0 : Hid (Acts w A v l)) (HOK : Hid (∀ x ∈ l, x.ok)) (hn : l.length ≤ 9223372036854775807) (HB : Hid (∀ x ∈ l, x.bytes.length ≤ 9223372036854775807)) (hf : fewOf l 50 = true) (HA : Hid (∀ k, A k → k < w.heap.size)) :
    (once_cut w v l HV0 HOK hn HB hf HA).P0 := by
  delta once_cut
  intro hl50 c HS Q' w1 b K wr u2 u8 u9 u10 u11 u12 u13 u14 u15 u24 u25 u26 u27 u28 u29 u30 u31 u32 u33 u34 u35 u36 u37 u38 u39 u40 u41 u42 u43 u44 u45 u46 u47 u48 u49 u50 u51 u52 u53 u54 u55 u56 u57 u58 u59 u60 u61 u62 u63 u64 u65 u66 u67 u68 u69 u70 u71 u72 u73 u74 u75 u76 u77 u78 u79 u80 u81 u82 u83 u84 u85 u86 u87 u88 u89 u90 u91 u92 u93 u94 u95 u96 u97 u98 u99 u100 u101 u102 u103 u104 u105 u106 u107 u108 u109 u110 u111 u112 u113 u114 u115 u116 u117 u118 u119 u120 u121 u122 u123 u124 u125 u126 u127 u128 u129 u130 u131 u132 u133 u134 u135 u136 u137 u138 u139 u140 u141 u142 u143 u144 u145 u146 u147 u148 u149 u150 u151 u152 u153 u154 u155 u156 u157 u158 u159 u160 u161 u162 u163 u164 u165 u166 u167 u168 u169 u170 u171 u172 u173 k hk N put gone F M cs hpl hgl HI hcame HFR ap cp ag cg HO hlt bb o HV HAT hc hAb hbb a4 n4 xs xd xp xb xi hxl i1 i2 i3 i5 i4 H1 H2 H3 HX hbw i0 he
  have hr : N.putR xs xd xb = (N.put xs xd xb, put.length, 0) := by unfold NA.putR; rw [if_pos he, HI.out.came]
  have hdn := (NA.putErr_zero he).2.2.2.1
  have HR := Lib.hid hr
  have HE := Lib.hid he
  have HDN := Lib.hid (decide_eq_false hdn)
  clear hr he hdn
  go_wp2_with fail
  have bx0 := (Box.new wr 36 [.int .i64 0, .int .i64 xs, .int .i64 xd, .int .i64 xp, .slice a4 xb.length n4, .bool xi])
  have ex : Ext wr (wr.alloc (Obj.cells #[.int .i64 0, .int .i64 xs, .int .i64 xd, .int .i64 xp, .slice a4 xb.length n4, .bool xi] 36)) := ((Keeps.refl NoB wr).alloc _)
  have sx : (wr.alloc (Obj.cells #[.int .i64 0, .int .i64 xs, .int .i64 xd, .int .i64 xp, .slice a4 xb.length n4, .bool xi] 36)).heap.size = wr.heap.size + 1 := by simp
  generalize (wr.alloc (Obj.cells #[.int .i64 0, .int .i64 xs, .int .i64 xd, .int .i64 xp, .slice a4 xb.length n4, .bool xi] 36)) = w2 at bx0 ex sx ⊢
  have Sx := Lib.hid sx
  clear sx
  have BX := Lib.hid bx0
  have h12 := ex.size
  replace HO := Lib.hid (HO.out.ext ex)
  replace HX := Lib.hid (HX.out.ext ex)
  clear ex bx0 i0 i1 i2 i3 i4 i5
  refine (put_any w2 b N xs xd _ xb HO.out.rig.net H1.out H2.out HX.out (by omega) hcame _ put.length 0 0 put.length HR.out rfl rfl).mono ?_
  rintro e w3 ⟨F', M', rfl, hn3, hs⟩
  replace BX := Lib.hid (BX.out.keeps hs.keeps (fun h => HFR.out (HO.out.rig.net.FM _ h)))
  replace HX := Lib.hid (HX.out.keeps hs.keeps (fun k hk h => by have := HA.out k hk; have := HO.out.rig.base k (HO.out.rig.net.FM k h); omega))
  have HO3 := Lib.hid (HO.out.step hn3 hs)
  have h23 := hs.keeps.size
  clear hn3 hs HO
  have hpe : ((put.length : Int) != (put.length : Int)) = false := by simp
  obtain ⟨cBX, zBX⟩ := BX.out.reads
  have lBX := BX.out.lt
  go_wp2_with fail
  refine (num_any _ _).mono ?_
  rintro e w' ⟨rfl, rfl⟩
  go_wp2_with fail
  refine (isdown_any w3 b (N.put xs xd xb) xs xd HO3.out.rig.net H1.out H2.out).mono ?_
  rintro e w' ⟨rfl, rfl⟩
  have hdd : decide ((xs, xd) ∈ (N.put xs xd xb).downs) = false := HDN.out
  rw [hdd]
  clear hdd hpe
  go_wp2_with (at_builtin; refine standing ?_)
  have by0 := (Box.new w3 50 [.int .i64 (put.length : Int), .int .i64 xs, .int .i64 xd, .slice a4 xb.length n4])
  have ey : Ext w3 (w3.alloc (Obj.cells #[.int .i64 (put.length : Int), .int .i64 xs, .int .i64 xd, .slice a4 xb.length n4] 50)) := ((Keeps.refl NoB w3).alloc _)
  have sy : (w3.alloc (Obj.cells #[.int .i64 (put.length : Int), .int .i64 xs, .int .i64 xd, .slice a4 xb.length n4] 50)).heap.size = w3.heap.size + 1 := by simp
  generalize (w3.alloc (Obj.cells #[.int .i64 (put.length : Int), .int .i64 xs, .int .i64 xd, .slice a4 xb.length n4] 50)) = w4 at by0 ey sy ⊢
  have Sy := Lib.hid sy
  clear sy
  have HO4 := Lib.hid (HO3.out.ext ey)
  have HX4 := Lib.hid (HX.out.ext ey)
  have h34 := ey.size
  have hbase := HO4.out.rig.E.size
  obtain ⟨v5, w5, hr5, hwin5, hk5, ho5⟩ := append_pars (A := A) w4 w.heap.size _ cs put 38 HO4.out.pw (.slice (some ⟨w3.heap.size, 0, none⟩) 1 1) [.int .i64 (put.length : Int), .int .i64 xs, .int .i64 xd, .slice a4 xb.length n4] [⟨put.length, xs, xd, xb⟩] (Box.src by0 1 1) (RowOf.one ⟨_, rfl, HX4.out⟩ rfl) (by simp; omega) hbase
  have hA5 : ∀ k, A k → ¬ Own (.slice ap put.length cp) k := fun k hk h => by have := HO4.out.rig.base k (HO4.out.po k h).1; have := HA.out k hk; omega
  obtain ⟨M5, ho5'⟩ := HO4.out.more hk5 hwin5 (RowOf.append (HO4.out.pr.mono fun c p hc => hc.keeps hk5 hA5) (RowOf.one ⟨_, rfl, HX4.out.keeps hk5 hA5⟩ rfl)) ho5
  have HR5 : Hid (OMX w w5 A b v5 (.slice ag gone.length cg) (k + 1)) := Lib.hid ⟨_, _, _, _, _, _, ho5', by
    have := HI.out.put xs xd xb
    rw [HI.out.came] at this
    exact this, by rw [List.length_append]; simp; omega, by omega⟩
  obtain ⟨a5, c5, rfl⟩ := hwin5.len
  have hl5 : (put ++ [(⟨put.length, xs, xd, xb⟩ : Pc)]).length = put.length + 1 := by simp
  rw [hl5] at HR5
  clear hl5
  clear ey by0 hwin5 hk5 ho5 hA5 ho5'
  clear cBX zBX lBX
  refine ⟨?_⟩
  refine wpList_append_ran rfl _ _ hr5 rfl rfl rfl ?_
  clear hr5
  go_wp2_with fail
  go_roundw
  case rel => exact ⟨k + 1, by omega, by go_num, HR5⟩
  case measure => simp [intOf]; omega
set_option maxRecDepth 100000 in
set_option maxHeartbeats 4000000 in
theorem once_arm1 {A : Nat → Prop} (w : World) (v : Value) (l : List Ac) (HV0 : Hid (Acts w A v l)) (HOK : Hid (∀ x ∈ l, x.ok)) (hn : l.length ≤ 9223372036854775807) (HB : Hid (∀ x ∈ l, x.bytes.length ≤ 9223372036854775807)) (hf : fewOf l 50 = true) (HA : Hid (∀ k, A k → k < w.heap.size)) :
    (once_cut w v l HV0 HOK hn HB hf HA).P1 := by
  delta once_cut
  intro hl50 c HS Q' w1 b K wr u2 u8 u9 u10 u11 u12 u13 u14 u15 u24 u25 u26 u27 u28 u29 u30 u31 u32 u33 u34 u35 u36 u37 u38 u39 u40 u41 u42 u43 u44 u45 u46 u47 u48 u49 u50 u51 u52 u53 u54 u55 u56 u57 u58 u59 u60 u61 u62 u63 u64 u65 u66 u67 u68 u69 u70 u71 u72 u73 u74 u75 u76 u77 u78 u79 u80 u81 u82 u83 u84 u85 u86 u87 u88 u89 u90 u91 u92 u93 u94 u95 u96 u97 u98 u99 u100 u101 u102 u103 u104 u105 u106 u107 u108 u109 u110 u111 u112 u113 u114 u115 u116 u117 u118 u119 u120 u121 u122 u123 u124 u125 u126 u127 u128 u129 u130 u131 u132 u133 u134 u135 u136 u137 u138 u139 u140 u141 u142 u143 u144 u145 u146 u147 u148 u149 u150 u151 u152 u153 u154 u155 u156 u157 u158 u159 u160 u161 u162 u163 u164 u165 u166 u167 u168 u169 u170 u171 u172 u173 k hk N put gone F M cs hpl hgl HI hcame HFR ap cp ag cg HO hlt bb o HV HAT hc hAb hbb a4 n4 xs xd xp xb xi hxl i1 i2 i3 i5 i4 H1 H2 H3 HX hbw i0 he
  obtain ⟨kk, hkk⟩ : ∃ kk, N.putErr xs xd xb.length = kk := ⟨_, rfl⟩
  rw [hkk] at he
  have hr : N.putR xs xd xb = (N, 0, kk) := by unfold NA.putR; rw [hkk, if_neg he]
  have HR := Lib.hid hr
  have hke : ((kk : Int) == 0) = false := beq_eq_false_iff_ne.2 (by omega)
  have hke2 : ((kk : Int) != 0) = true := by rw [bne_iff_ne]; omega
  clear hr hkk
  go_wp2_with fail
  have bx0 := (Box.new wr 36 [.int .i64 0, .int .i64 xs, .int .i64 xd, .int .i64 xp, .slice a4 xb.length n4, .bool xi])
  have ex : Ext wr (wr.alloc (Obj.cells #[.int .i64 0, .int .i64 xs, .int .i64 xd, .int .i64 xp, .slice a4 xb.length n4, .bool xi] 36)) := ((Keeps.refl NoB wr).alloc _)
  have sx : (wr.alloc (Obj.cells #[.int .i64 0, .int .i64 xs, .int .i64 xd, .int .i64 xp, .slice a4 xb.length n4, .bool xi] 36)).heap.size = wr.heap.size + 1 := by simp
  generalize (wr.alloc (Obj.cells #[.int .i64 0, .int .i64 xs, .int .i64 xd, .int .i64 xp, .slice a4 xb.length n4, .bool xi] 36)) = w2 at bx0 ex sx ⊢
  have Sx := Lib.hid sx
  clear sx
  have BX := Lib.hid bx0
  have h12 := ex.size
  replace HO := Lib.hid (HO.out.ext ex)
  replace HX := Lib.hid (HX.out.ext ex)
  clear ex bx0 i0 i1 i2 i3 i4 i5
  refine (put_any w2 b N xs xd _ xb HO.out.rig.net H1.out H2.out HX.out (by omega) hcame _ 0 kk kk 0 HR.out rfl rfl).mono ?_
  rintro e w3 ⟨F', M', rfl, hn3, hs⟩
  have HO3 : Hid (OMX w w3 A b (.slice ap put.length cp) (.slice ag gone.length cg) (k + 1)) := Lib.hid ⟨_, _, _, _, _, _, HO.out.step hn3 hs, HI.out, by omega, by omega⟩
  clear hn3 hs HO BX
  go_wp2_with fail
  refine (num_any _ _).mono ?_
  rintro e w' ⟨rfl, rfl⟩
  go_wp2_with fail
  go_roundw
  case rel => exact ⟨k + 1, by omega, by go_num, HO3⟩
  case measure => simp [intOf]; omega
end Go.Proofs.Ytdiogipdcpiffaa
