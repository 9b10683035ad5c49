/- Package local: Write: its walk. -/
import Derived.Test.YtfkcdnaghndgfaaGreatDoorQAP
import Derived.Test.YtfkcdnaghndgfaaGreatDoorQAN
set_option linter.unusedVariables false
set_option linter.unusedSimpArgs false
set_option linter.unusedSectionVars false
namespace Go.Proofs.YtfkcdnaghndgfaaGreatDoor
open Go.RowKit
theorem zbm (B b:Nat) (l:List Nat) (w:World) (h:Wr B b l w) (h0:l≠[]) (hb : ∀ x∈l,x<256) :
 Calls Tryz.prog 52 #[.pointer (some ⟨b,0,none⟩)] w fun e w'=>e = .returned (.string (zd l))∧Below B w w':=by
 have HS:=Lib.hid (WM B b l w h h0 hb)
 clear h
 go_enter Tryz.func52,Tryz.ntmps52
 go_wp2_with fail
 refine HS.out.mono ?_
 rintro e w1 ⟨rfl,hF⟩
 go_wp2
 go_ret
 exact ⟨rfl,hF⟩
theorem Qq (B b n:Nat) (l:List Nat) (w:World) (h:Wr B b l w) (hn:n<9223372036854775808) (hlen:l.length≤100000000) (hBw:B≤w.heap.size) :
 Calls Tryz.prog 48 #[.int .i64 (n:Nat),.pointer (some ⟨b,0,none⟩)] w fun e w'=>e = .returned (.tuple #[])∧Wr B b (l++leP n 2) w'∧Below B w w':=by
 have HS:=Lib.hid (zaB B b n 2 l w h (by omega) (by omega) hlen hBw)
 clear h
 go_enter Tryz.func48,Tryz.ntmps48
 go_wp2_with fail
 refine HS.out.mono ?_
 rintro e w1 ⟨rfl,hF⟩
 go_wp2
 go_end0
 exact ⟨rfl,hF⟩
theorem vZ (B b n:Nat) (l:List Nat) (w:World) (h:Wr B b l w) (hn:n<9223372036854775808) (hlen:l.length≤100000000) (hBw:B≤w.heap.size) :
 Calls Tryz.prog 50 #[.int .i64 (n:Nat),.pointer (some ⟨b,0,none⟩)] w fun e w'=>e = .returned (.tuple #[])∧Wr B b (l++leP n 4) w'∧Below B w w':=by
 have HS:=Lib.hid (zaB B b n 4 l w h (by omega) (by omega) hlen hBw)
 clear h
 go_enter Tryz.func50,Tryz.ntmps50
 go_wp2_with fail
 refine HS.out.mono ?_
 rintro e w1 ⟨rfl,hF⟩
 go_wp2
 go_end0
 exact ⟨rfl,hF⟩
theorem Blk.below {w w':World} {b B:Nat} {cs:List Value} {t:TypeId} (h:Blk w b cs t) (hb:Below B w w') (hlt:b<B):Blk w' b cs t:=(hb.block b hlt).trans h
set_option maxRecDepth 100000 in
set_option maxHeartbeats 4000000 in
theorem KT (r:RecD) (w:World) (h:r.Fits):Calls Tryz.prog 22 #[r.v] w fun e w'=>e = .returned (.string (zd (Ks r)))∧Upd [] w w':=by
 have hp:=h.p
 have hs:=h.sum
 have ht:=h.t
 have HR:=Lib.hid (fun w=>Yi r w h)
 have HN:=Lib.hid (fun w=>Xo r w h)
 have hnl:=xp r.k r.p
 have HNL:=Lib.hid (qf r.k r.p)
 have HW:Hid (Ks r=if yt r=0 then yx r else []):=Lib.hid rfl
 have HH:Hid (yx r=[80,75,3,4,20,0,0,8]++(leP r.m.toNat 2++(leP r.t 4++(leP r.sum 4++(leP r.l.toNat 4++(leP r.wh.toNat 4++(leP (zl r.k r.p).length 2++([0,0]++zl r.k r.p)))))))):=Lib.hid rfl
 have HLT:=Lib.hid (Yt r)
 have HPT:=Lib.hid (fun h0=>Zo (jm (r:=r) h0).2.1)
 generalize yx r=hd at *
 generalize Ks r=wr at *
 by_cases hE:yt r=0
 rotate_left
 · rw [if_neg hE] at HW
   generalize yt r=E at *
   obtain ⟨p,m,sum,l,wh,k,md,t,pos⟩:=r
   unfold RecD.v at *
   dsimp only at *
   have t1:((E:Int) != 0)=true:=by simpa using hE
   go_enter Tryz.func22,Tryz.ntmps22
   go_wp2_with fail
   refine (HR.out _).mono ?_
   rintro e w1 ⟨rfl,hU1⟩
   have HU:=Lib.hid (((Upd.refl [] w).alloc (.cells #[.string p,.int .i64 m,.int .u32 (sum:Nat),.int .i64 l,.int .i64 wh,.int .i64 k,.int .i64 md,.int .u32 (t:Nat),.int .i64 pos] 26)).then hU1)
   go_wp2_with fail
   go_ret
   exact ⟨by rw [HW.out]; rfl,HU.out⟩
 · rw [if_pos hE] at HW
   rw [hE] at HR
   obtain ⟨pm,pl,pw,pa⟩:=HPT.out hE
   clear hE HPT
   have hsz:(zd (zl r.k r.p)).size=(zl r.k r.p).length:=zo _
   have HBN:=Lib.hid (zx _ (qf r.k r.p))
   generalize hS:zd (zl r.k r.p)=S at *
   generalize hnm:zl r.k r.p=nm at *
   obtain ⟨p,m,sum,l,wh,k,md,t,pos⟩:=r
   unfold RecD.v at *
   dsimp only at *
   obtain ⟨mn,rfl⟩ : ∃ mn:Nat,m=mn:=⟨m.toNat,by omega⟩
   obtain ⟨ln,rfl⟩ : ∃ ln:Nat,l=ln:=⟨l.toNat,by omega⟩
   obtain ⟨wn,rfl⟩ : ∃ wn:Nat,wh=wn:=⟨wh.toNat,by omega⟩
   simp only [Int.toNat_natCast] at HH
   have hmn:mn≤8:=by omega
   have hln:ln<2147483648:=by omega
   have hwn:wn<2147483648:=by omega
   have hz:(S.size:Int)≤1001:=by omega
   clear pm pl pw pa
   go_enter Tryz.func22,Tryz.ntmps22
   go_wp2_with fail
   refine (HR.out _).mono ?_
   rintro e w1 ⟨rfl,hU1⟩
   have HU:=Lib.hid (((Upd.refl [] w).alloc (.cells #[.string p,.int .i64 mn,.int .u32 (sum:Nat),.int .i64 ln,.int .i64 wn,.int .i64 k,.int .i64 md,.int .u32 (t:Nat),.int .i64 pos] 26)).then hU1)
   have hB:=(Blk.new w [.string p,.int .i64 mn,.int .u32 (sum:Nat),.int .i64 ln,.int .i64 wn,.int .i64 k,.int .i64 md,.int .u32 (t:Nat),.int .i64 pos] 26).upd hU1 (by simp)
   generalize w.heap.size=b0 at *
   have hlt:=hB.lt
   have hW0:=Bld.fresh 79 w1
   have hBB:=hB.alloc (.cells #[.pointer none,.slice none 0 0] 79)
   have cA:=hBB.all
   have HBB:=Lib.hid hBB
   have hA:w1.heap.size≤(w1.alloc (.cells #[.pointer none,.slice none 0 0] 79)).heap.size:=by rw [World.size_alloc]; omega
   have HL:=Lib.hid (Below.refl w1.heap.size (w1.alloc (.cells #[.pointer none,.slice none 0 0] 79)))
   go_wp2_with fail
   refine (vZ w1.heap.size w1.heap.size (67324752) _ _ hW0 (by omega) (by simp only [List.length_append,zR,List.length_nil]; omega) hA).mono ?_
   rintro e x0 ⟨rfl,hWx0,hLx0⟩
   have HLx0:=Lib.hid (HL.out.trans hLx0)
   have hBx0:=HBB.out.below hLx0 hlt
   have hAx0:=Nat.le_trans hA hLx0.size
   clear cA
   have dA:=hBx0.all
   have HBx0:=Lib.hid hBx0
   clear hBx0 hLx0
   go_wp2_with fail
   refine (Qq w1.heap.size w1.heap.size (20) _ _ hWx0 (by omega) (by simp only [List.length_append,zR,List.length_nil]; omega) hAx0).mono ?_
   rintro e x1 ⟨rfl,hWx1,hLx1⟩
   have HLx1:=Lib.hid (HLx0.out.trans hLx1)
   have hBx1:=HBx0.out.below hLx1 hlt
   have hAx1:=Nat.le_trans hAx0 hLx1.size
   clear dA
   have cA:=hBx1.all
   have HBx1:=Lib.hid hBx1
   clear hBx1 hLx1
   go_wp2_with fail
   refine (Qq w1.heap.size w1.heap.size (2048) _ _ hWx1 (by omega) (by simp only [List.length_append,zR,List.length_nil]; omega) hAx1).mono ?_
   rintro e x2 ⟨rfl,hWx2,hLx2⟩
   have HLx2:=Lib.hid (HLx1.out.trans hLx2)
   have hBx2:=HBx1.out.below hLx2 hlt
   have hAx2:=Nat.le_trans hAx1 hLx2.size
   clear cA
   have dA:=hBx2.all
   have HBx2:=Lib.hid hBx2
   clear hBx2 hLx2
   go_wp2_with fail
   refine (Qq w1.heap.size w1.heap.size (mn) _ _ hWx2 (by omega) (by simp only [List.length_append,zR,List.length_nil]; omega) hAx2).mono ?_
   rintro e x3 ⟨rfl,hWx3,hLx3⟩
   have HLx3:=Lib.hid (HLx2.out.trans hLx3)
   have hBx3:=HBx2.out.below hLx3 hlt
   have hAx3:=Nat.le_trans hAx2 hLx3.size
   clear dA
   have cA:=hBx3.all
   have HBx3:=Lib.hid hBx3
   clear hBx3 hLx3
   go_wp2_with fail
   refine (vZ w1.heap.size w1.heap.size (t) _ _ hWx3 (by omega) (by simp only [List.length_append,zR,List.length_nil]; omega) hAx3).mono ?_
   rintro e x4 ⟨rfl,hWx4,hLx4⟩
   have HLx4:=Lib.hid (HLx3.out.trans hLx4)
   have hBx4:=HBx3.out.below hLx4 hlt
   have hAx4:=Nat.le_trans hAx3 hLx4.size
   clear cA
   have dA:=hBx4.all
   have HBx4:=Lib.hid hBx4
   clear hBx4 hLx4
   go_wp2_with fail
   refine (vZ w1.heap.size w1.heap.size (sum) _ _ hWx4 (by omega) (by simp only [List.length_append,zR,List.length_nil]; omega) hAx4).mono ?_
   rintro e x5 ⟨rfl,hWx5,hLx5⟩
   have HLx5:=Lib.hid (HLx4.out.trans hLx5)
   have hBx5:=HBx4.out.below hLx5 hlt
   have hAx5:=Nat.le_trans hAx4 hLx5.size
   clear dA
   have cA:=hBx5.all
   have HBx5:=Lib.hid hBx5
   clear hBx5 hLx5
   go_wp2_with fail
   refine (vZ w1.heap.size w1.heap.size (ln) _ _ hWx5 (by omega) (by simp only [List.length_append,zR,List.length_nil]; omega) hAx5).mono ?_
   rintro e x6 ⟨rfl,hWx6,hLx6⟩
   have HLx6:=Lib.hid (HLx5.out.trans hLx6)
   have hBx6:=HBx5.out.below hLx6 hlt
   have hAx6:=Nat.le_trans hAx5 hLx6.size
   clear cA
   have dA:=hBx6.all
   have HBx6:=Lib.hid hBx6
   clear hBx6 hLx6
   go_wp2_with fail
   refine (vZ w1.heap.size w1.heap.size (wn) _ _ hWx6 (by omega) (by simp only [List.length_append,zR,List.length_nil]; omega) hAx6).mono ?_
   rintro e x7 ⟨rfl,hWx7,hLx7⟩
   have HLx7:=Lib.hid (HLx6.out.trans hLx7)
   have hBx7:=HBx6.out.below hLx7 hlt
   have hAx7:=Nat.le_trans hAx6 hLx7.size
   clear dA
   have cA:=hBx7.all
   have HBx7:=Lib.hid hBx7
   clear hBx7 hLx7
   go_wp2_with fail
   refine (HN.out _).mono ?_
   rintro e x8 ⟨rfl,hN8⟩
   have hWx8:=hWx7.upd hN8
   have hLx8:=(hN8.belowB hAx7)
   have HLx8:=Lib.hid (HLx7.out.trans hLx8)
   have hBx8:=HBx7.out.below hLx8 hlt
   have hAx8:=Nat.le_trans hAx7 hLx8.size
   clear cA
   have dA:=hBx8.all
   have HBx8:=Lib.hid hBx8
   clear hBx8 hLx8
   go_wp2_with fail
   refine (Qq w1.heap.size w1.heap.size (nm.length) _ _ hWx8 (by omega) (by simp only [List.length_append,zR,List.length_nil]; omega) hAx8).mono ?_
   rintro e x9 ⟨rfl,hWx9,hLx9⟩
   have HLx9:=Lib.hid (HLx8.out.trans hLx9)
   have hBx9:=HBx8.out.below hLx9 hlt
   have hAx9:=Nat.le_trans hAx8 hLx9.size
   clear dA
   have cA:=hBx9.all
   have HBx9:=Lib.hid hBx9
   clear hBx9 hLx9
   go_wp2_with fail
   refine (Qq w1.heap.size w1.heap.size (0) _ _ hWx9 (by omega) (by simp only [List.length_append,zR,List.length_nil]; omega) hAx9).mono ?_
   rintro e x10 ⟨rfl,hWx10,hLx10⟩
   have HLx10:=Lib.hid (HLx9.out.trans hLx10)
   have hBx10:=HBx9.out.below hLx10 hlt
   have hAx10:=Nat.le_trans hAx9 hLx10.size
   clear cA
   have dA:=hBx10.all
   have HBx10:=Lib.hid hBx10
   clear hBx10 hLx10
   go_wp2_with fail
   refine (HN.out _).mono ?_
   rintro e y1 ⟨rfl,hN1⟩
   have hW1:=hWx10.upd hN1
   have HL1:=Lib.hid (HLx10.out.trans (hN1.belowB hAx10))
   have hA1:=Nat.le_trans hAx10 hN1.size
   go_wp2_with fail
   have hU2:=(Upd.refl [] y1).alloc (.cells #[.string S] 9)
   refine (zeU w1.heap.size w1.heap.size y1.heap.size _ S _ (hW1.upd hU2) ((Blk.new y1 [.string S] 9).cell 0 rfl) (by simp only [List.length_append,zR,List.length_nil]; omega) (by have:=hU2.size; omega)).mono ?_
   rintro e y2 ⟨rfl,hW2,hL2⟩
   have HL2:=Lib.hid ((HL1.out.trans (hU2.belowB hA1)).trans hL2)
   rw [HBN.out] at hW2
   have hhd:[]++leP 67324752 4++leP 20 2++leP 2048 2++leP mn 2++leP t 4++leP sum 4++leP ln 4++leP wn 4++leP nm.length 2++leP 0 2++nm=hd:=by
    rw [HH.out]
    simp [List.append_assoc,leP]
   rw [hhd] at hW2
   go_wp2_with fail
   refine (zbm _ _ hd _ hW2 (by rw [HH.out]; simp) HLT.out).mono ?_
   rintro e y3 ⟨rfl,hL3⟩
   have HL3:=Lib.hid (HL2.out.trans hL3)
   go_wp2
   go_ret
   refine ⟨by rw [HW.out]; rfl,?_⟩
   exact HU.out.then (Upd.of_below ((((Upd.refl [] w1).alloc _).below).trans HL3.out))
end Go.Proofs.YtfkcdnaghndgfaaGreatDoor
namespace Go.Proofs.YtfkcdnaghndgfaaGreatDoor
open Go.RowKit
theorem zhA {a b:List Nat} (ha : ∀ x∈a,x<256) (hb : ∀ x∈b,x<256) (hl:a.length=b.length) (h:leG a=leG b):a=b:=by
 rw [← KP a ha,← KP b hb,h,hl]
theorem zgh (x:ByteArray) (h:4≤x.size) (L:List UInt8) (m:Nat) (hL:L.length=4) (hm:leG (L.map UInt8.toNat)=m):((x.extract 0 4).toList==L)=decide (gN x 0 4=m):=by
 rw [xC,Bool.eq_iff_iff,decide_eq_true_eq,decide_eq_true_eq,zI]
 unfold gN
 rw [← hm,Nat.sub_zero]
 refine ⟨fun e=>by rw [e],fun e=>zhA (fun y hy=>zP x y (List.mem_of_mem_drop (List.mem_of_mem_take hy))) (fun y hy=>?_) (by rw [List.length_take,List.length_drop,zc,List.length_map,hL]; omega) e⟩
 obtain ⟨z,_,rfl⟩:=List.mem_map.1 hy
 exact z.toNat_lt
theorem zcB (s:ByteArray) (i k:Nat) (h:i+k≤s.size):zgT (s.extract i s.size) k = .tuple #[.int .u64 (gN s i k:Nat),.bool true]:=by
 unfold zgT gN
 have e:((za s).drop i).take (s.size-i)=(za s).drop i:=List.take_of_length_le (by rw [List.length_drop,zc]; omega)
 rw [if_pos (by rw [ByteArray.size_extract]; omega),zI,e]
set_option maxRecDepth 100000 in
theorem Qd (s:ByteArray) (i k:Nat) (w:World) (h:i+k≤s.size) (hs:s.size≤1000000) (hk:k≤4) :
 Calls Tryz.prog 65 #[.string s,.int .i64 (i:Nat),.int .i64 (k:Nat)] w fun e w'=>e = .returned (.int .i64 (gN s i k:Nat))∧Upd [] w w':=by
 have HG:=Lib.hid (fun w=>zhb (s.extract i s.size) k w (by rw [ByteArray.size_extract]; omega) (by omega))
 rw [zcB s i k h] at HG
 have hlt:gN s i k<4294967296:=Nat.lt_of_lt_of_le (zgc s i k) (Nat.le_trans (Nat.pow_le_pow_right (by omega) hk) (by decide))
 generalize gN s i k=v at *
 have h1:(i:Int)≤(s.size:Int):=by omega
 go_enter Tryz.func65,Tryz.ntmps65
 go_wp2_with fail
 refine (HG.out _).mono ?_
 rintro e w1 ⟨rfl,hU⟩
 go_wp2
 go_ret
 exact ⟨rfl,hU⟩
def zhc (x:RecD×Nat×Bool×Nat):Value := .tuple #[x.1.v,.int .i64 (x.2.1:Nat),.bool x.2.2.1,.int .i64 (x.2.2.2:Nat)]
theorem zb6 {l:List Nat} (h:(zS l).2.2=true):(zS l).1.length≤200:=by
 unfold zS at h ⊢
 repeat' split
 · rename_i h1; exact XK h1
 · simp
 · rename_i h1
   rcases h1 with h1 | h1
   · exact XK h1
   · rw [h1]; decide
 · simp
theorem xx {fn:Func} {p t u v:Tmp} (h:fn.results = #[.cell p 26,.tmp t,.tmp u,.tmp v]) (tmps:Array Value) (w:World) (g:Nat) (c0 c1 c2 c3 c4 c5 c6 c7 c8:Value) (hp:tmps.getD p undef = .pointer (some ⟨g,0,none⟩)) (hB:Blk w g [c0,c1,c2,c3,c4,c5,c6,c7,c8] 26) :
 (results fn tmps).run Tryz.prog w = .ok (.tuple #[.agg #[c0,c1,c2,c3,c4,c5,c6,c7,c8],tmps.getD t undef,tmps.getD u undef,tmps.getD v undef]) w:=by
 have h0:=hB.cell 0 rfl
 have h1:=hB.cell 1 rfl
 have h2:=hB.cell 2 rfl
 have h3:=hB.cell 3 rfl
 have h4:=hB.cell 4 rfl
 have h5:=hB.cell 5 rfl
 have h6:=hB.cell 6 rfl
 have h7:=hB.cell 7 rfl
 have h8:=hB.cell 8 rfl
 have hp2:tmps[p]?.getD undef = .pointer (some ⟨g,0,none⟩):=by rw [← hp]; simp
 simp [results,h,go_sem,hp2,h0,h1,h2,h3,h4,h5,h6,h7,h8]
theorem Blk.set9 {w:World} {b:Nat} {a0 a1 a2 a3 a4 a5 a6 a7 a8:Value} {t:TypeId} (h:Blk w b [a0,a1,a2,a3,a4,a5,a6,a7,a8] t) (v0 v1 v2 v3 v4 v5 v6 v7 v8:Value) :
 Blk (((((((((w.setCell ⟨b,0,none⟩ v0).setCell ⟨b,1,none⟩ v1).setCell ⟨b,2,none⟩ v2).setCell ⟨b,3,none⟩ v3).setCell ⟨b,4,none⟩ v4).setCell ⟨b,5,none⟩ v5).setCell ⟨b,6,none⟩ v6).setCell ⟨b,7,none⟩ v7).setCell ⟨b,8,none⟩ v8) b [v0,v1,v2,v3,v4,v5,v6,v7,v8] t :=
 ((((((((h.set 0 v0).set 1 v1).set 2 v2).set 3 v3).set 4 v4).set 5 v5).set 6 v6).set 7 v7).set 8 v8
theorem Upd.set9 {fp:List Nat} {w0 w:World} {b:Nat} (h:Upd fp w0 w) (hb:b∈fp∨w0.heap.size≤b) (v0 v1 v2 v3 v4 v5 v6 v7 v8:Value) :
 Upd fp w0 (((((((((w.setCell ⟨b,0,none⟩ v0).setCell ⟨b,1,none⟩ v1).setCell ⟨b,2,none⟩ v2).setCell ⟨b,3,none⟩ v3).setCell ⟨b,4,none⟩ v4).setCell ⟨b,5,none⟩ v5).setCell ⟨b,6,none⟩ v6).setCell ⟨b,7,none⟩ v7).setCell ⟨b,8,none⟩ v8) :=
 ((((((((h.setCell hb v0).setCell hb v1).setCell hb v2).setCell hb v3).setCell hb v4).setCell hb v5).setCell hb v6).setCell hb v7).setCell hb v8
theorem Blk.far9 {w:World} {d b:Nat} {cs:List Value} {t:TypeId} (h:Blk w d cs t) (hb:d≠b) (v0 v1 v2 v3 v4 v5 v6 v7 v8:Value):Blk (((((((((w.setCell ⟨b,0,none⟩ v0).setCell ⟨b,1,none⟩ v1).setCell ⟨b,2,none⟩ v2).setCell ⟨b,3,none⟩ v3).setCell ⟨b,4,none⟩ v4).setCell ⟨b,5,none⟩ v5).setCell ⟨b,6,none⟩ v6).setCell ⟨b,7,none⟩ v7).setCell ⟨b,8,none⟩ v8) d cs t:=(Blk.setFar (Blk.setFar (Blk.setFar (Blk.setFar (Blk.setFar (Blk.setFar (Blk.setFar (Blk.setFar (Blk.setFar h (a:=⟨b,0,none⟩) v0 hb) (a:=⟨b,1,none⟩) v1 hb) (a:=⟨b,2,none⟩) v2 hb) (a:=⟨b,3,none⟩) v3 hb) (a:=⟨b,4,none⟩) v4 hb) (a:=⟨b,5,none⟩) v5 hb) (a:=⟨b,6,none⟩) v6 hb) (a:=⟨b,7,none⟩) v7 hb) (a:=⟨b,8,none⟩) v8 hb)
def Rd1 (w0:World) (b:Nat) (w:World):Prop:=w0.heap.size≤b∧Blk w b [.string { data := #[] },.int .i64 0,.int .u32 0,.int .i64 0,.int .i64 0,.int .i64 0,.int .i64 0,.int .u32 0,.int .i64 0] 26∧Upd [] w0 w
theorem Rd1.upd {w0 w w':World} {b:Nat} {fp:List Nat} (h:Rd1 w0 b w) (hu:Upd fp w w') (hf : ∀ k,k∈fp→b<k):Rd1 w0 b w':=⟨h.1,h.2.1.upd hu (fun hm=>by have:=hf b hm; omega),h.2.2.trans hu (fun k hk => .inr (by have:=hf k hk; have:=h.1; omega))⟩
def Rd3 (w0:World) (b:Nat) (w:World):Prop:=w0.heap.size≤b∧Blk w b [.string .empty,.int .i64 0,.int .u32 0,.int .i64 0,.int .i64 0,.int .i64 0,.int .i64 0,.int .u32 0,.int .i64 0] 26∧Blk w (b+1) [.string .empty,.int .i64 0,.int .u32 0,.int .i64 0,.int .i64 0,.int .i64 0,.int .i64 0,.int .u32 0,.int .i64 0] 26∧Upd [] w0 w
theorem Rd3.new (w:World):Rd3 w w.heap.size ((w.alloc (.cells #[.string .empty,.int .i64 0,.int .u32 0,.int .i64 0,.int .i64 0,.int .i64 0,.int .i64 0,.int .u32 0,.int .i64 0] 26)).alloc (.cells #[.string .empty,.int .i64 0,.int .u32 0,.int .i64 0,.int .i64 0,.int .i64 0,.int .i64 0,.int .u32 0,.int .i64 0] 26)):=by
 have h:=Blk.new (w.alloc (.cells #[.string .empty,.int .i64 0,.int .u32 0,.int .i64 0,.int .i64 0,.int .i64 0,.int .i64 0,.int .u32 0,.int .i64 0] 26)) [.string .empty,.int .i64 0,.int .u32 0,.int .i64 0,.int .i64 0,.int .i64 0,.int .i64 0,.int .u32 0,.int .i64 0] 26
 rw [World.size_alloc] at h
 exact ⟨Nat.le_refl _,(Blk.new w [.string .empty,.int .i64 0,.int .u32 0,.int .i64 0,.int .i64 0,.int .i64 0,.int .i64 0,.int .u32 0,.int .i64 0] 26).alloc _,h,((Upd.refl [] w).alloc _).alloc _⟩
theorem Rd3.upd {w0 w w':World} {b:Nat} (h:Rd3 w0 b w) (hu:Upd [] w w'):Rd3 w0 b w':=⟨h.1,h.2.1.upd hu (by simp),h.2.2.1.upd hu (by simp),h.2.2.2.then hu⟩
theorem Rd3.far {w0 w:World} {b q o:Nat} (h:Rd3 w0 b w) (hq:b+1<q) (v:Value):Rd3 w0 b (w.setCell ⟨q,o,none⟩ v):=⟨h.1,h.2.1.setFar _ (by simp; omega),h.2.2.1.setFar _ (by simp; omega),h.2.2.2.setCell (p:=⟨q,o,none⟩) (.inr (by have:=h.1; dsimp only; omega)) v⟩
theorem Wj (x:ByteArray) (i k:Nat) (h:i+k≤x.size) (hs:x.size≤1000000) (hk:k≤4) : ∃ n,gN x i k=n∧n<256^k∧Hid (∀ w,Calls Tryz.prog 65 #[.string x,.int .i64 (i:Nat),.int .i64 (k:Nat)] w fun e w'=>e = .returned (.int .i64 (n:Nat))∧Upd [] w w') :=
 ⟨_,rfl,zgc x i k,Lib.hid (fun w=>Qd x i k w h hs hk)⟩
end Go.Proofs.YtfkcdnaghndgfaaGreatDoor
