/- Package runs: next: walks. -/
import Derived.Test.YtfkcdnaghndgfaaGreatDoorQBL
import Derived.Test.YtfkcdnaghndgfaaGreatDoorQAC
import Derived.Test.YtfkcdnaghndgfaaGreatDoorQAJ
set_option linter.unusedVariables false
set_option linter.unusedSimpArgs false
set_option linter.unusedSectionVars false
namespace Go.Proofs.YtfkcdnaghndgfaaGreatDoor
open Go.RowKit
def yu (k:Int):List Int→Nat
 | []=>0
 | x::r=>if x=k then yu k r+1 else 0
theorem kO (k:Int) : ∀ l,yu k l≤l.length
 | []=>Nat.le_refl _
 | x::r=>by
   rw [yu]
   split
   · have:=kO k r; simp; omega
   · simp
theorem Kx (k:Int) : ∀ (l:List Int) (i:Nat),(∀ j,j<i→l[j]? =some k)→i≤l.length→yu k l=i+yu k (l.drop i)
 | l,0,_,_=>by simp
 | [],i+1,_,h=>by simp at h
 | x::r,i+1,h,hl=>by
   have h0:=h 0 (by omega)
   simp at h0
   have:=Kx k r i (fun j hj=>by have:=h (j+1) (by omega); simpa using this) (by simpa using hl)
   rw [yu,if_pos h0,this,List.drop_succ_cons]
   omega
set_option maxRecDepth 100000 in
set_option maxHeartbeats 3200000 in
theorem zgb (l:List Int) (k:Int) (a:Option Addr) (n cap g:Nat) (w:World) (hI:IntsIn w a n l) (hg:w.cell? ⟨g,0,none⟩=some (.slice a n cap)) (hn:n≤1000000) :
 Calls Tryz.prog 219 #[.int .i64 k,.pointer (some ⟨g,0,none⟩)] w fun e w'=>e = .returned (.int .i64 (yu k l:Nat))∧w=w':=by
 have HI:=Lib.hid hI
 have HLN:=Lib.hid hI.len
 clear hI
 go_enter Tryz.func219,Tryz.ntmps219
 go_wp2
 go_loopg [3] 1000000 (fun gg s3 wr => ∃ i:Nat,i≤n∧gg=1000000-i∧s3 = .int .i64 (i:Nat)∧Hid (∀ j,j<i→l[j]? =some k)∧wr=w)
 case atStart=>exact ⟨0,by omega,by omega,rfl,Lib.hid (fun j hj=>by omega),rfl⟩
 case round =>
  obtain ⟨i,hin,rfl,rfl,HE,hwr⟩:=hrel
  subst hwr
  by_cases hc:i<n
  · have hcz:(i:Int)<(n:Int):=by omega
    have hil:i<l.length:=by rw [HLN.out]; exact hc
    obtain ⟨b,off,rfl,hc1,_,_⟩:=HI.out.cell i hil
    have HG:Hid (l[i]? =some l[i]):=Lib.hid (List.getElem?_eq_getElem hil)
    have HDr:Hid (l.drop i=l[i]::l.drop (i+1)):=Lib.hid (List.drop_eq_getElem_cons hil)
    generalize l[i]=x at *
    have hw1:IntKind.i64.wrap ((i:Int)+1)=((i+1:Nat):Int):=by rw [IntWalk.i64_in _ (by omega)]; rfl
    clear hil
    by_cases hx:x=k
    · subst hx
      go_wp2
      go_roundg (1000000-(i+1))
      · exact ⟨i+1,by omega,by first | rfl | omega,by first | rfl | go_num,Lib.hid (fun j hj=>by
         rcases Nat.lt_or_ge j i with h | h
         · exact HE.out j h
         · obtain rfl:j=i:=by omega
           exact HG.out),rfl⟩
      · omega
    · have hxb:(x==k)=false:=by simpa using hx
      have HR:Hid (yu k l=i):=Lib.hid (by rw [Kx k l i HE.out (by rw [HLN.out]; exact hin),HDr.out,yu,if_neg hx]; omega)
      go_wp2
      go_ret
      exact ⟨by rw [HR.out]; rfl,rfl⟩
  · have hcz : ¬ (i:Int)<(n:Int):=by omega
    obtain rfl:i=n:=by omega
    have HR:Hid (yu k l=i):=Lib.hid (by rw [Kx k l i HE.out (by rw [HLN.out]; exact hin),List.drop_of_length_le (by rw [HLN.out]; exact Nat.le_refl _),yu]; omega)
    go_wp2
    go_ret
    exact ⟨by rw [HR.out]; rfl,rfl⟩
structure StpD where
 sym:Nat
 bits:Nat
 more:Nat
def StpD.cs (s:StpD):List Value:=[.int .i64 (s.sym:Nat),.int .i64 (s.bits:Nat),.int .i64 (s.more:Nat)]
def xQ (s n:Nat):StpD×Nat:=(⟨s,vy s,min n (vO s)-runL' s⟩,min n (vO s))
def yg (l:List Int) (ahead:Int):StpD×Nat :=
 if 11≤yu 0 l then xQ 18 (yu 0 l) else if 3≤yu 0 l then xQ 17 (yu 0 l) else if 3≤yu ahead l then xQ 16 (yu ahead l) else (⟨(l.headD 0).toNat,0,0⟩,1)
def zgu (l:List Int) (ahead:Int) (w:World) (e:Ending) (w':World):Prop:=e = .returned (.tuple #[.agg (yg l ahead).1.cs.toArray,.int .i64 ((yg l ahead).2:Nat)])∧Upd [] w w'
set_option maxRecDepth 100000 in
set_option maxHeartbeats 6400000 in
theorem Wn (l:List Int) (ahead:Int) (a:Option Addr) (n cap:Nat) (w:World) (hI:IntsIn w a n l) (hn:n≤1000000) (hn1:1≤n) (h0:0≤l.headD 0) :
 Calls Tryz.prog 192 #[.slice a n cap,.int .i64 ahead] w fun e w'=>zgu l ahead w e w':=by
 have HU:=Lib.hid (((Upd.refl [] w).alloc (.cells #[.slice a n cap] 98)).alloc (.cells #[.int .i64 0,.int .i64 0,.int .i64 0] 217))
 have hP:=(Blk.new w [.slice a n cap] 98).alloc (.cells #[.int .i64 0,.int .i64 0,.int .i64 0] 217)
 have hQ:=Blk.new (w.alloc (.cells #[.slice a n cap] 98)) [.int .i64 0,.int .i64 0,.int .i64 0] 217
 rw [World.size_alloc] at hQ
 have HI2:=Lib.hid (hI.pure HU.out)
 have HP:=Lib.hid hP
 have HQ:=Lib.hid hQ
 have HLN:=Lib.hid hI.len
 clear hI hP hQ
 go_enter Tryz.func192,Tryz.ntmps192
 go_upto_region 2 with fail
 change Code.wp _ _ _ _ ((w.alloc (.cells #[.slice a n cap] 98)).alloc (.cells #[.int .i64 0,.int .i64 0,.int .i64 0] 217))
 generalize (w.alloc (.cells #[.slice a n cap] 98)).alloc (.cells #[.int .i64 0,.int .i64 0,.int .i64 0] 217)=w2 at *
 generalize hg0:w.heap.size=g at *
 have HG0:=Lib.hid hg0
 clear hg0
 have HC:=Lib.hid (fun k=>zgb l k a n cap g w2 HI2.out (HP.out.cell 0 rfl) hn)
 have hz:=kO 0 l
 have hag:=kO ahead l
 rw [HLN.out] at hz hag
 have HNX:Hid (yg l ahead=if 11≤yu 0 l then xQ 18 (yu 0 l) else if 3≤yu 0 l then xQ 17 (yu 0 l) else if 3≤yu ahead l then xQ 16 (yu ahead l) else (⟨(l.headD 0).toNat,0,0⟩,1)):=Lib.hid rfl
 have HC0:=Lib.hid (HC.out 0)
 have HCA:=Lib.hid (HC.out ahead)
 generalize yu 0 l=z at *
 generalize yu ahead l=ag at *
 clear HC
 go_wp2_with fail
 refine HC0.out.mono ?_
 rintro e w3 ⟨rfl,rfl⟩
 go_wp2_with fail
 refine HCA.out.mono ?_
 rintro e w3 ⟨rfl,rfl⟩
 by_cases h1:11≤z
 · have h1z:(11:Int)≤(z:Int):=by omega
   go_wp2_with fail
   refine (xn 18 w2).mono ?_
   rintro e w3 ⟨rfl,rfl⟩
   rw [show Ke 18=11 from by decide]
   have HSP:=Lib.hid (fun w'=>vS 18 z w' (by decide) (by show _≤z; simp only [show runL' 18=11 from by decide]; omega) (by omega))
   have HV:Hid (yg l ahead=xQ 18 z):=Lib.hid (by rw [HNX.out,if_pos h1])
   unfold zas at HSP
   have HS2:Hid (xQ 18 z=(⟨18,vy 18,min z (vO 18)-runL' 18⟩,min z (vO 18))):=Lib.hid rfl
   generalize min z (vO 18)=q at *
   generalize q-runL' 18=mo at *
   generalize vy 18=bb at *
   go_wp2_with fail
   refine (HSP.out w2).mono ?_
   rintro e w4 ⟨rfl,hU4⟩
   have hQ4:=HQ.out.upd hU4 (by simp)
   have HU4:=Lib.hid (HU.out.then hU4)
   have fA:=hQ4.frz
   have cA:=hQ4.all
   have HQ4:=Lib.hid hQ4
   clear hU4 hQ4 HSP
   go_wp2
   have hB9:=((HQ4.out.set 0 (.int .i64 18)).set 1 (.int .i64 (bb:Nat))).set 2 (.int .i64 (mo:Nat))
   refine bodyPost_ret (xW rfl _ _ (g+1) _ _ _ _ (.int .i64 (q:Nat)) (by simp [Act.put]) (by simp [Act.put]) hB9 Tryz.underlying217 rfl (by rw [vV]; rfl)) (by simp [Act.put]) ⟨?_,?_⟩
   · rw [HV.out,HS2.out]; rfl
   · exact ((HU4.out.setCell (.inr (by rw [HG0.out]; simp)) _).setCell (.inr (by rw [HG0.out]; simp)) _).setCell (.inr (by rw [HG0.out]; simp)) _
 · have h1z : ¬ (11:Int)≤(z:Int):=by omega
   go_wp2_with fail
   refine (xn 18 w2).mono ?_
   rintro e w3 ⟨rfl,rfl⟩
   rw [show Ke 18=11 from by decide]
   by_cases h2:3≤z
   · have h2z:(3:Int)≤(z:Int):=by omega
     go_wp2_with fail
     refine (xn 17 w2).mono ?_
     rintro e w3 ⟨rfl,rfl⟩
     rw [show Ke 17=3 from by decide]
     have HSP:=Lib.hid (fun w'=>vS 17 z w' (by decide) (by show _≤z; simp only [show runL' 17=3 from by decide]; omega) (by omega))
     have HV:Hid (yg l ahead=xQ 17 z):=Lib.hid (by rw [HNX.out,if_neg h1,if_pos h2])
     unfold zas at HSP
     have HS2:Hid (xQ 17 z=(⟨17,vy 17,min z (vO 17)-runL' 17⟩,min z (vO 17))):=Lib.hid rfl
     generalize min z (vO 17)=q at *
     generalize q-runL' 17=mo at *
     generalize vy 17=bb at *
     go_wp2_with fail
     refine (HSP.out w2).mono ?_
     rintro e w4 ⟨rfl,hU4⟩
     have hQ4:=HQ.out.upd hU4 (by simp)
     have HU4:=Lib.hid (HU.out.then hU4)
     have fA:=hQ4.frz
     have cA:=hQ4.all
     have HQ4:=Lib.hid hQ4
     clear hU4 hQ4 HSP
     go_wp2
     have hB9:=((HQ4.out.set 0 (.int .i64 17)).set 1 (.int .i64 (bb:Nat))).set 2 (.int .i64 (mo:Nat))
     refine bodyPost_ret (xW rfl _ _ (g+1) _ _ _ _ (.int .i64 (q:Nat)) (by simp [Act.put]) (by simp [Act.put]) hB9 Tryz.underlying217 rfl (by rw [vV]; rfl)) (by simp [Act.put]) ⟨?_,?_⟩
     · rw [HV.out,HS2.out]; rfl
     · exact ((HU4.out.setCell (.inr (by rw [HG0.out]; simp)) _).setCell (.inr (by rw [HG0.out]; simp)) _).setCell (.inr (by rw [HG0.out]; simp)) _
   · have h2z : ¬ (3:Int)≤(z:Int):=by omega
     go_wp2_with fail
     refine (xn 17 w2).mono ?_
     rintro e w3 ⟨rfl,rfl⟩
     rw [show Ke 17=3 from by decide]
     by_cases h3:3≤ag
     · have h3z:(3:Int)≤(ag:Int):=by omega
       go_wp2_with fail
       refine (xn 16 w2).mono ?_
       rintro e w3 ⟨rfl,rfl⟩
       rw [show Ke 16=3 from by decide]
       have HSP:=Lib.hid (fun w'=>vS 16 ag w' (by decide) (by show _≤ag; simp only [show runL' 16=3 from by decide]; omega) (by omega))
       have HV:Hid (yg l ahead=xQ 16 ag):=Lib.hid (by rw [HNX.out,if_neg h1,if_neg h2,if_pos h3])
       unfold zas at HSP
       have HS2:Hid (xQ 16 ag=(⟨16,vy 16,min ag (vO 16)-runL' 16⟩,min ag (vO 16))):=Lib.hid rfl
       generalize min ag (vO 16)=q at *
       generalize q-runL' 16=mo at *
       generalize vy 16=bb at *
       go_wp2_with fail
       refine (HSP.out w2).mono ?_
       rintro e w4 ⟨rfl,hU4⟩
       have hQ4:=HQ.out.upd hU4 (by simp)
       have HU4:=Lib.hid (HU.out.then hU4)
       have fA:=hQ4.frz
       have cA:=hQ4.all
       have HQ4:=Lib.hid hQ4
       clear hU4 hQ4 HSP
       go_wp2
       have hB9:=((HQ4.out.set 0 (.int .i64 16)).set 1 (.int .i64 (bb:Nat))).set 2 (.int .i64 (mo:Nat))
       refine bodyPost_ret (xW rfl _ _ (g+1) _ _ _ _ (.int .i64 (q:Nat)) (by simp [Act.put]) (by simp [Act.put]) hB9 Tryz.underlying217 rfl (by rw [vV]; rfl)) (by simp [Act.put]) ⟨?_,?_⟩
       · rw [HV.out,HS2.out]; rfl
       · exact ((HU4.out.setCell (.inr (by rw [HG0.out]; simp)) _).setCell (.inr (by rw [HG0.out]; simp)) _).setCell (.inr (by rw [HG0.out]; simp)) _
     · have h3z : ¬ (3:Int)≤(ag:Int):=by omega
       go_wp2_with fail
       refine (xn 16 w2).mono ?_
       rintro e w3 ⟨rfl,rfl⟩
       rw [show Ke 16=3 from by decide]
       have HV:Hid (yg l ahead=(⟨(l.headD 0).toNat,0,0⟩,1)):=Lib.hid (by rw [HNX.out,if_neg h1,if_neg h2,if_neg h3])
       have hil:0<l.length:=by rw [HLN.out]; omega
       obtain ⟨b,off,rfl,hc1,_,_⟩:=HI2.out.cell 0 hil
       have hhd:l.headD 0=l[0]:=by cases l with | nil=>simp at hil | cons x r=>rfl
       rw [hhd] at h0 HV
       generalize l[0]=x at *
       obtain ⟨v,rfl⟩ : ∃ v:Nat,x=(v:Int):=⟨x.toNat,by omega⟩
       rw [Int.toNat_natCast] at HV
       rw [Nat.add_zero] at hc1
       have hp0:=HP.out.cell 0 rfl
       have hQ4:=HQ.out
       have fA:=hQ4.frz
       have cA:=hQ4.all
       have hnz:(0:Int)<(n:Int):=by omega
       clear hQ4 hhd hil
       go_wp2
       have hB9:=((HQ.out.set 0 (.int .i64 (v:Nat))).set 1 (.int .i64 0)).set 2 (.int .i64 0)
       refine bodyPost_ret (xW rfl _ _ (g+1) _ _ _ _ (.int .i64 1) (by simp [Act.put]) (by simp [Act.put]) hB9 Tryz.underlying217 rfl (by rw [vV]; rfl)) (by simp [Act.put]) ⟨?_,?_⟩
       · rw [HV.out]; rfl
       · exact ((HU.out.setCell (.inr (by rw [HG0.out]; simp)) _).setCell (.inr (by rw [HG0.out]; simp)) _).setCell (.inr (by rw [HG0.out]; simp)) _
end Go.Proofs.YtfkcdnaghndgfaaGreatDoor
namespace Go.Proofs.YtfkcdnaghndgfaaGreatDoor
open Go.RowKit
theorem zdF:(Tryz.prog.info? 217).map (fun i=>(i.zero,i.size,i.bytes))=some (some (.agg #[.int .i64 0,.int .i64 0,.int .i64 0]),3,24):=by kernel_rfl
theorem QR (r:List Int) (a:Int) (h:r≠[]):1≤(yg r a).2∧(yg r a).2≤r.length:=by
 have h1:=kO 0 r
 have h2:=kO a r
 have h3:1≤r.length:=by cases r with | nil=>exact absurd rfl h | cons=>simp
 unfold yg
 split
 · unfold xQ vO; dsimp only; rw [if_neg (by omega),if_neg (by omega)]; omega
 · split
   · unfold xQ vO; dsimp only; rw [if_neg (by omega),if_pos rfl]; omega
   · split
     · unfold xQ vO; dsimp only; rw [if_pos rfl]; omega
     · dsimp only; omega
def ofS:Nat→List Int→Int→List StpD
 | 0,_,_=>[]
 | f+1,r,a=>if r=[] then [] else (yg r a).1::ofS f (r.drop (yg r a).2) (r.getD ((yg r a).2-1) 0)
theorem jP (f:Nat) (r:List Int) (a:Int):ofS (f+1) r a=if r=[] then [] else (yg r a).1::ofS f (r.drop (yg r a).2) (r.getD ((yg r a).2-1) 0):=by rw [ofS]
theorem KL (f:Nat) (a:Int):ofS f [] a=[]:=by cases f with | zero=>rfl | succ f=>rw [jP,if_pos rfl]
theorem Yb : ∀ (f:Nat) (r:List Int) (a:Int),r.length≤f→ofS f r a=ofS r.length r a
 | 0,r,a,h=>by rw [List.eq_nil_of_length_eq_zero (show r.length=0 by omega)]; rfl
 | f+1,r,a,h=>by
   by_cases hr:r=[]
   · rw [hr,KL,KL]
   · obtain ⟨h1,h2⟩:=QR r a hr
     obtain ⟨m,hm⟩ : ∃ m,r.length=m+1:=⟨r.length-1,by omega⟩
     rw [hm,jP,jP,if_neg hr,if_neg hr]
     have hd:(r.drop (yg r a).2).length≤m:=by rw [List.length_drop]; omega
     rw [Yb f _ _ (by omega),Yb m _ _ hd]
 termination_by f=>f
theorem IntsIn.drop {w:World} {b off n:Nat} {l:List Int} (h:IntsIn w (some ⟨b,off,none⟩) n l) (k:Nat) (hk:k≤n):IntsIn w (some ⟨b,off+k,none⟩) (n-k) (l.drop k) :=
 ⟨by rw [List.length_drop,h.len],fun i hi=>by
  rw [List.length_drop,h.len] at hi
  obtain ⟨b',off',e,c,r⟩:=h.cell (k+i) (by rw [h.len]; omega)
  cases e
  exact ⟨b,off+k,rfl,by rw [List.getElem_drop,show off+k+i=off+(k+i) by omega]; exact c,by rw [List.getElem_drop]; exact r⟩⟩
def jj (l:List StpD):List Value:=l.flatMap StpD.cs
theorem zh4 (s:StpD) : ∀ v∈s.cs,v.oneCell'=true:=by
 intro v hv
 simp [StpD.cs] at hv
 rcases hv with rfl | rfl | rfl<;>rfl
theorem ziC (w:World) (s:StpD) (T:TypeId) : ∀ j u,s.cs[j]? =some u→(w.alloc (.cells s.cs.toArray T)).cell? ((⟨w.heap.size,0,none⟩:Addr).add j)=some u:=World.news_of_block (cs:=s.cs.toArray) (t:=T) (fr:=(0,0)) (heap_alloc_new _ _)
def zjb (l:List Int) (n:Nat) (w:World) (e:Ending) (w':World):Prop := ∃ v,e = .returned v∧Row w' 217 3 v (ofS n l (-1)).length (jj (ofS n l (-1)))∧(∀ k,v.ownBlock=some k→w.heap.size≤k)∧Upd [] w w'
set_option maxRecDepth 100000 in
set_option maxHeartbeats 6400000 in
theorem zdH (l:List Int) (a:Option Addr) (n cap:Nat) (w:World) (hI:IntsIn w a n l) (hn:n≤400) (hnc:n≤cap) (hb : ∀ x∈l,0≤x∧x≤15) :
 Calls Tryz.prog 158 #[.slice a n cap] w fun e w'=>zjb l n w e w':=by
 obtain ⟨i0,hi,hz0,hz1,hz2⟩:=info_parts zdF
 have HI:=Lib.hid hI
 have HLN:=Lib.hid hI.len
 have HBD:=Lib.hid hb
 clear hI hb
 have hn400 : ¬ (400:Int)<(n:Int):=by omega
 go_enter Tryz.func158,Tryz.ntmps158
 go_wp2
 go_loopg [2,13] 1000 (fun gg s2 s13 wr => ∃ i:Nat,i≤n∧gg=1000-i∧s13 = .int .i64 (i:Nat)∧s2 = .slice none 0 0∧wr=w)
 case atStart=>exact ⟨0,by omega,by omega,rfl,rfl,rfl⟩
 case round =>
  obtain ⟨i,hin,rfl,rfl,rfl,hwr⟩:=hrel
  subst hwr
  by_cases hc:i<n
  · have hcz:(i:Int)<(n:Int):=by omega
    have hil:i<l.length:=by rw [HLN.out]; exact hc
    obtain ⟨b,off,rfl,hc1,_,_⟩:=HI.out.cell i hil
    obtain ⟨hx1,hx2⟩:=HBD.out l[i] (List.getElem_mem hil)
    generalize l[i]=x at *
    have hw1:IntKind.i64.wrap ((i:Int)+1)=((i+1:Nat):Int):=by rw [IntWalk.i64_in _ (by omega)]; rfl
    clear hil
    go_wp2
    go_roundg (1000-(i+1))
    · exact ⟨i+1,by omega,by first | rfl | omega,by first | rfl | go_num,rfl,rfl⟩
    · omega
  · have hcz : ¬ (i:Int)<(n:Int):=by omega
    obtain rfl:i=n:=by omega
    go_wp2
    obtain ⟨wo,hwo⟩ : ∃ wo:World,wo=wr:=⟨_,rfl⟩
    subst hwo
    go_loopg [0,2,5] 1000 (fun gg s0 s2 s5 wq => ∃ (m c:Nat) (a':Option Addr) (r:List Int) (ah:Int) (out:List StpD),gg=1000-(i-m)∧m≤i∧m≤c∧s0 = .slice a' m c∧s5 = .int .i64 ah∧out.length≤i-m∧Hid (IntsIn wq a' m r)∧Hid (0<m → ∀ b off,a'=some ⟨b,off,none⟩→b<wo.heap.size)∧Hid (∀ x∈r,0≤x∧x≤15)∧Hid (ofS i l (-1)=out++ofS m r ah) ∧
     Hid (Row wq 217 3 s2 out.length (jj out))∧Hid (∀ k,s2.ownBlock=some k→wo.heap.size≤k)∧Hid (Upd [] wo wq))
    case atStart=>exact ⟨i,cap,a,l,-1,[],by omega,by omega,hnc,rfl,rfl,by simp,HI,Lib.hid (fun h b off e=>by
     obtain ⟨b',off',e',c,_⟩:=HI.out.cell 0 (by rw [HLN.out]; exact h)
     rw [e] at e'
     cases e'
     exact World.block_lt_of_cell? wo _ c),HBD,Lib.hid rfl,Lib.hid (Row.nil _ _ _),Lib.hid (by simp [Value.ownBlock]),Lib.hid (Upd.refl _ _)⟩
    case round =>
     obtain ⟨m,c,a',r,ah,out,rfl,hmi,hmc,rfl,rfl,hol,HIr,HLT,HBr,HE,HR,HO,HU⟩:=hrel
     rcases Nat.eq_zero_or_pos m with hm0 | hm0
     · subst hm0
       have hr0:r=[]:=List.eq_nil_of_length_eq_zero HIr.out.len
       subst hr0
       have HE2:Hid (ofS i l (-1)=out):=Lib.hid (by rw [HE.out,KL,List.append_nil])
       have hv:=HR.out.form
       obtain ⟨va,vc,rfl⟩:=hv
       go_wp2
       go_ret
       exact ⟨_,rfl,by rw [HE2.out]; exact HR.out,HO.out,HU.out⟩
     · have hmz:(0:Int)<(m:Int):=by omega
       have hrl:r.length=m:=HIr.out.len
       have hrn:r≠[]:=fun e=>by rw [e] at hrl; simp at hrl; omega
       have hnl:=QR r ah hrn
       have hh0:0≤r.headD 0:=by
        cases r with
        | nil=>exact absurd rfl hrn
        | cons x q=>exact (HBr.out x List.mem_cons_self).1
       have HNX:=Lib.hid (Wn r ah a' m c wr HIr.out (by omega) (by omega) hh0)
       unfold zgu at HNX
       obtain ⟨f,hf⟩ : ∃ f,m=f+1:=⟨m-1,by omega⟩
       have HEx:Hid (ofS m r ah=(yg r ah).1::ofS f (r.drop (yg r ah).2) (r.getD ((yg r ah).2-1) 0)):=Lib.hid (by rw [hf,jP,if_neg hrn])
       generalize yg r ah=p at *
       obtain ⟨st,k⟩:=p
       dsimp only at hnl HNX HEx
       rw [hrl] at hnl
       obtain ⟨hk1,hk2⟩:=hnl
       have hrk:k-1<r.length:=by omega
       obtain ⟨b,off,rfl,hcl,_,_⟩:=HIr.out.cell (k-1) hrk
       have HGD:Hid (r.getD (k-1) 0=r[k-1]):=Lib.hid (by rw [List.getD_eq_getElem?_getD,List.getElem?_eq_getElem hrk]; rfl)
       generalize r[k-1]=ah2 at *
       have hb2:=World.block_lt_of_cell? wr _ hcl
       have HF1:=Lib.hid hf
       have HRN:=Lib.hid hrn
       have HCL:=Lib.hid hcl
       clear hrk hrl hf hrn hcl hb2 hh0
       go_wp2_with fail
       refine HNX.out.mono ?_
       rintro e w3 ⟨rfl,hU3⟩
       have HR3:=Lib.hid (HR.out.upd hU3 (by simp))
       have HU3:=Lib.hid (HU.out.then hU3)
       have HI3:=Lib.hid (HIr.out.pure hU3)
       obtain ⟨sy,sb,sm⟩:=st
       simp only [StpD.cs] at *
       obtain ⟨va,vc,rfl⟩:=HR.out.form
       obtain ⟨on,hon⟩ : ∃ on,out.length=on:=⟨_,rfl⟩
       have hT4:=Blk.new w3 [.int .i64 (sy:Nat),.int .i64 (sb:Nat),.int .i64 (sm:Nat)] 217
       have hR4:=HR3.out.alloc (.cells #[.int .i64 (sy:Nat),.int .i64 (sb:Nat),.int .i64 (sm:Nat)] 217)
       have hI4:=HI3.out.pure ((Upd.refl [] w3).alloc (.cells #[.int .i64 (sy:Nat),.int .i64 (sb:Nat),.int .i64 (sm:Nat)] 217))
       have hU4:=HU3.out.alloc (.cells #[.int .i64 (sy:Nat),.int .i64 (sb:Nat),.int .i64 (sm:Nat)] 217)
       rw [hon] at hR4 hol HO ⊢
       have HON:=Lib.hid hon
       clear hU3 HNX HR HU hon HR3 HI3 HU3
       go_upto_region 12 with fail
       change Code.wp _ _ _ _ (w3.alloc (.cells #[.int .i64 (sy:Nat),.int .i64 (sb:Nat),.int .i64 (sm:Nat)] 217))
       generalize w3.alloc (.cells #[.int .i64 (sy:Nat),.int .i64 (sb:Nat),.int .i64 (sm:Nat)] 217)=w4 at *
       generalize w3.heap.size=g at *
       have tA:=hT4.all
       have hRz:=hR4.alloc (.cells #[.int .i64 (sy:Nat),.int .i64 (sb:Nat),.int .i64 (sm:Nat)] 217)
       have HNW:Hid (∀ j u,([.int .i64 (sy:Nat),.int .i64 (sb:Nat),.int .i64 (sm:Nat)]:List Value)[j]? =some u→(w4.alloc (.cells #[.int .i64 (sy:Nat),.int .i64 (sb:Nat),.int .i64 (sm:Nat)] 217)).cell? ((⟨w4.heap.size,0,none⟩:Addr).add j)=some u):=Lib.hid (ziC w4 ⟨sy,sb,sm⟩ _)
       have HST:Hid (∀ v∈([.int .i64 (sy:Nat),.int .i64 (sb:Nat),.int .i64 (sm:Nat)]:List Value),v.oneCell'=true):=Lib.hid (zh4 ⟨sy,sb,sm⟩)
       have HI4:=Lib.hid hI4
       have HU4:=Lib.hid hU4
       clear hI4 hU4 hT4 hR4
       go_wp2_with (at_builtin; refine zC _ rfl _ _ 175 rfl 217 i0 _ 3 24 Tryz.underlying175 hi hz0 hz1 hz2 rfl (by omega) (.slice va on vc) on _ rfl hRz ⟨w4.heap.size,0,none⟩ 1 1 [.int .i64 (sy:Nat),.int .i64 (sb:Nat),.int .i64 (sm:Nat)] rfl rfl HNW.out HST.out (by unfold maxLen; omega) (by omega) ?_)
       intro v5 w5 hR5 hU5 hT5
       obtain ⟨va5,vc5,rfl⟩:=hR5.form
       have hbw:=HLT.out hm0 b off rfl
       have hI5:=HI4.out.upd (((Upd.refl [] w4).alloc (.cells #[.int .i64 (sy:Nat),.int .i64 (sb:Nat),.int .i64 (sm:Nat)] 217)).mono (fp':=(Value.slice va on vc).ownBlock.toList) (fun k hk=>by simp at hk) |>.then hU5) (fun b' off' e hm=>by
        cases e
        have:=HO.out b (by simpa using hm)
        omega)
       have hU6:Upd [] wo w5:=(HU4.out.alloc _).trans hU5 (fun k hk => .inr (HO.out k (by simpa using hk)))
       have hO6 : ∀ k,(Value.slice va5 (on+1) vc5).ownBlock=some k→wo.heap.size≤k:=fun k hk=>by
        rcases hT5 with h | ⟨g',h1,h2⟩
        · exact HO.out k (by rw [← h]; exact hk)
        · rw [hk] at h1; cases h1; have:=HU4.out.size; simp at h2; omega
       have hck2:w5.cell? ⟨b,off+(k-1),none⟩=some (.int .i64 ah2):=by
        have hlt:k-1<r.length:=by rw [HIr.out.len]; omega
        obtain ⟨b',off',e7,h7,_,_⟩:=hI5.cell (k-1) hlt
        cases e7
        have hg:=HGD.out
        rw [List.getD_eq_getElem?_getD,List.getElem?_eq_getElem hlt] at hg
        simp only [Option.getD_some] at hg
        rw [hg] at h7
        exact h7
       have HE9:Hid (ofS i l (-1)=(out++[⟨sy,sb,sm⟩])++ofS (m-k) (r.drop k) ah2):=Lib.hid (by
        rw [HE.out,HEx.out,HGD.out,List.append_assoc]
        have hd:(r.drop k).length=m-k:=by rw [List.length_drop,HIr.out.len]
        rw [Yb f _ _ (by rw [hd]; have:=HF1.out; omega),hd]
        rfl)
       have HB9:Hid (∀ x∈r.drop k,0≤x∧x≤15):=Lib.hid (fun x hx=>HBr.out x (List.mem_of_mem_drop hx))
       have HI9:=Lib.hid (fun (a9:Option Addr) (h:m-k=0∨a9=some ⟨b,off+k,none⟩)=>show ∀ n,IntsIn (w5.drewN n) a9 (m-k) (r.drop k) from fun n=>by
        rcases h with h | rfl
        · exact ⟨by rw [List.length_drop,HIr.out.len],fun j hj=>by rw [List.length_drop,HIr.out.len] at hj; omega⟩
        · exact (hI5.drop k hk2).pure ((Upd.refl [] w5).drewN n))
       have HR9:Hid (∀ n,Row (w5.drewN n) 217 3 (.slice va5 (on+1) vc5) (out++[(⟨sy,sb,sm⟩:StpD)]).length (jj (out++[⟨sy,sb,sm⟩]))):=Lib.hid (fun n=>by
        have e1:(out++[(⟨sy,sb,sm⟩:StpD)]).length=on+1:=by rw [List.length_append,HON.out]; rfl
        have e2:jj (out++[(⟨sy,sb,sm⟩:StpD)])=jj out++[.int .i64 (sy:Nat),.int .i64 (sb:Nat),.int .i64 (sm:Nat)]:=by unfold jj; rw [List.flatMap_append]; rfl
        rw [e1,e2]
        exact hR5.drewN n)
       have HO9:=Lib.hid hO6
       have HU9:=Lib.hid hU6
       have HL9:Hid ((out++[(⟨sy,sb,sm⟩:StpD)]).length=on+1):=Lib.hid (by rw [List.length_append,HON.out]; rfl)
       have hwk:IntKind.i64.wrap ((k:Int)-1)=((k-1:Nat):Int):=by rw [IntWalk.i64_in _ (by omega)]; omega
       have hb1:((k-1:Nat):Int)<(m:Int):=by omega
       have hb2:(k:Int)≤(m:Int):=by omega
       have hb3:(0:Int)≤(k:Int):=by omega
       have hb4:(m:Int)≤(c:Int):=by omega
       have hb5:(0:Int)≤((k-1:Nat):Int):=by omega
       clear hI5 hU6 hO6 hR5 hU5 hT5 hRz HNW HST tA hbw
       rcases Nat.lt_or_ge k c with hkc | hkc
       · have hcz9 : ¬ c-k=0:=by omega
         go_wp2
         go_quiet (fail)
         go_wp2
         go_roundg (1000-(i-(m-k)))
         · exact ⟨m-k,c-k,_,r.drop k,ah2,out++[⟨sy,sb,sm⟩],rfl,by omega,by omega,rfl,rfl,by rw [HL9.out]; omega,Lib.hid (HI9.out _ (.inr rfl) nq),Lib.hid (fun h b' off' e=>by first | (cases e; exact HLT.out hm0 b off rfl) | omega),HB9,HE9,Lib.hid (HR9.out nq),HO9,Lib.hid (HU9.out.drewN nq)⟩
         · omega
       · have hmk:m=k:=by omega
         have hcz9:c-k=0:=by omega
         have HMK:Hid (m-k=0):=Lib.hid (by omega)
         clear hmk
         go_wp2
         go_quiet (fail)
         go_wp2
         go_roundg (1000-(i-(m-k)))
         · exact ⟨m-k,0,_,r.drop k,ah2,out++[⟨sy,sb,sm⟩],rfl,by omega,by have:=HMK.out; omega,rfl,rfl,by rw [HL9.out]; omega,Lib.hid (HI9.out _ (.inl HMK.out) nq),Lib.hid (fun h b' off' e=>by first | (cases e; exact HLT.out hm0 b off rfl) | omega),HB9,HE9,Lib.hid (HR9.out nq),HO9,Lib.hid (HU9.out.drewN nq)⟩
         · omega
end Go.Proofs.YtfkcdnaghndgfaaGreatDoor
namespace Go.Proofs.YtfkcdnaghndgfaaGreatDoor
open Go.RowKit
theorem ju {P:Program} {fn:Func} {p u:Tmp} {ty:TypeId} (h:fn.results = #[.cell p ty,.tmp u]) (tmps:Array Value) (w:World) (g:Nat) (t:TypeId) (cs:Array Value) (fr:Nat×Nat) (d:TypeDesc) (v:Value)
 (hp:tmps.getD p undef = .pointer (some ⟨g,0,none⟩)) (hv:tmps.getD u undef=v) (hg:w.heap[g]? =some (.cells cs t fr))
 (hu:P.underlying ty=some d) (hd:(match d with | .struct _ | .array _ _=>true | _=>false)=true) (hi:(P.info? ty).map (·.size)=some cs.size) :
 (results fn tmps).run P w = .ok (.tuple #[.agg cs,v]) w:=by
 rw [results_cell_tmp h,hp,hv]
 simp [asAddr,run_loadVar_row w g t ty cs fr d hg hu hd hi,Result.andThen]
theorem Qq:(Tryz.prog.info? 207).map (·.size)=some 3:=by kernel_rfl
def inS (B G F M n k:Nat):Prop:=ja B G F M k≤n∧n<ja B G F M k+2^(zw G F M (k:Nat)).toNat
instance (B G F M n k:Nat):Decidable (inS B G F M n k):=by unfold inS; infer_instance
def vz (B G F M n:Nat):Nat→Nat→Option Nat
 | 0,_=>none
 | m+1,i=>if inS B G F M n i then some i else vz B G F M n m (i+1)
theorem XW (B G F M n m i:Nat):vz B G F M n (m+1) i=if inS B G F M n i then some i else vz B G F M n m (i+1):=rfl
theorem zct (B G F M n i:Nat):vz B G F M n 0 i=none:=rfl
def zaP (B G F M n k:Nat):Value := .agg #[.int .i64 (k:Nat),.int .i64 ((zw G F M (k:Nat)).toNat:Nat),.int .i64 ((n-ja B G F M k:Nat):Int)]
set_option maxRecDepth 100000 in
set_option maxHeartbeats 3200000 in
theorem Wc (B G F M n r:Nat) (w:World) (hG:1≤G) (hG2:G≤100) (hF:F≤100) (hM:M≤100) (hB:B≤100) (hb : ∀ j:Nat,j<M→zw G F M (j:Nat)≤13) (hn:n≤1000000)
 (hr:vz B G F M n M 0=some r):Calls Tryz.prog 188 #[qR B G F M,.int .i64 (n:Nat)] w fun e w'=>e = .returned (.tuple #[zaP B G F M n r,.bool true])∧Upd [] w w':=by
 have HBT:=Lib.hid (fun j w'=>jU B G F M j w' hG hG2 hF hM)
 have HBG:=Lib.hid (fun k w' (hk:k≤M)=>Zc B G F M k w' hG hG2 hF hM hB hb hk)
 have HBD:=Lib.hid hb
 have HLE:=Lib.hid (Ku B G F M hb)
 have HR:=Lib.hid hr
 unfold qR at HBT HBG ⊢
 have hU:=((Upd.refl [] w).alloc (.cells #[.int .i64 (B:Nat),.int .i64 (G:Nat),.int .i64 (F:Nat),.int .i64 (M:Nat)] 233)).alloc (.cells #[.int .i64 0,.int .i64 0,.int .i64 0] 207)
 have hP:=(Blk.new w [.int .i64 (B:Nat),.int .i64 (G:Nat),.int .i64 (F:Nat),.int .i64 (M:Nat)] 233).alloc (.cells #[.int .i64 0,.int .i64 0,.int .i64 0] 207)
 have hQ:=Blk.new (w.alloc (.cells #[.int .i64 (B:Nat),.int .i64 (G:Nat),.int .i64 (F:Nat),.int .i64 (M:Nat)] 233)) [.int .i64 0,.int .i64 0,.int .i64 0] 207
 rw [World.size_alloc] at hQ
 clear hb hr
 go_enter Tryz.func188,Tryz.ntmps188
 go_wp2
 have HU:=Lib.hid hU
 have HP:=Lib.hid hP
 have HQ:=Lib.hid hQ
 clear hU hP hQ
 change Code.wp _ _ _ _ ((w.alloc (.cells #[.int .i64 (B:Nat),.int .i64 (G:Nat),.int .i64 (F:Nat),.int .i64 (M:Nat)] 233)).alloc (.cells #[.int .i64 0,.int .i64 0,.int .i64 0] 207))
 generalize (w.alloc (.cells #[.int .i64 (B:Nat),.int .i64 (G:Nat),.int .i64 (F:Nat),.int .i64 (M:Nat)] 233)).alloc (.cells #[.int .i64 0,.int .i64 0,.int .i64 0] 207)=w2 at *
 generalize hp0:w.heap.size=p at *
 have HP0:=Lib.hid hp0
 clear hp0
 go_loopg [10] 100 (fun g s10 wr => ∃ i,i≤M∧g=100-i∧s10 = .int .i64 (i:Nat)∧Hid (vz B G F M n (M-i) i=some r)∧Hid (Upd [] w wr)∧Hid (Blk wr p [.int .i64 (B:Nat),.int .i64 (G:Nat),.int .i64 (F:Nat),.int .i64 (M:Nat)] 233)∧Hid (Blk wr (p+1) [.int .i64 0,.int .i64 0,.int .i64 0] 207))
 case atStart=>exact ⟨0,by omega,by omega,rfl,HR,HU,HP,HQ⟩
 case round =>
  obtain ⟨i,hi,rfl,rfl,HFi,HUi,HPi,HQi⟩:=hrel
  by_cases hc:i<M
  · have hcz:(i:Int)<(M:Int):=by omega
    have hw1:IntKind.i64.wrap ((i:Int)+1)=((i+1:Nat):Int):=by rw [IntWalk.i64_in _ (by omega)]; rfl
    have HFS:Hid (vz B G F M n (M-i) i=if inS B G F M n i then some i else vz B G F M n (M-(i+1)) (i+1)):=Lib.hid (by rw [show M-i=(M-(i+1))+1 by omega,XW])
    have HIN:Hid (inS B G F M n i↔ja B G F M i≤n∧n<ja B G F M i+2^(zw G F M (i:Nat)).toNat):=Lib.hid Iff.rfl
    have HSV:Hid (zaP B G F M n i = .agg #[.int .i64 (i:Nat),.int .i64 ((zw G F M (i:Nat)).toNat:Nat),.int .i64 ((n-ja B G F M i:Nat):Int)]):=Lib.hid rfl
    have hle:ja B G F M i≤819300:=by have:=HLE.out i (by omega); omega
    have hnn:=QD G F M i (by omega)
    have hb13:=HBD.out i (by omega)
    have hbt:=fun w'=>HBT.out (i:Nat) w'
    have hbg:=fun w'=>HBG.out i w' (by omega)
    generalize ja B G F M i=q at *
    obtain ⟨t,ht⟩ : ∃ t:Nat,zw G F M (i:Nat)=(t:Int):=⟨(zw G F M (i:Nat)).toNat,by omega⟩
    rw [ht] at hbt HIN HSV hb13 hnn
    rw [Int.toNat_natCast] at HIN HSV
    have ht13:t≤13:=by omega
    obtain ⟨P,hP⟩ : ∃ P:Nat,2^t=P:=⟨_,rfl⟩
    have hPb:P≤8192:=by
     have:=Nat.pow_le_pow_right (n:=2) (by omega) ht13
     omega
    have hpw:wrap64 ((2:Int)^t)=(P:Int):=by
     have:((2:Int)^t)=(P:Int):=by rw [← hP]; simp
     rw [this]
     unfold wrap64
     omega
    rw [hP] at HIN
    have HPW:=Lib.hid hpw
    clear hpw
    have HBTi:=Lib.hid hbt
    have HBGi:=Lib.hid hbg
    have hwq:IntKind.i64.wrap ((q:Int)+(P:Int))=((q+P:Nat):Int):=by rw [IntWalk.i64_in _ (by omega)]; rfl
    have hPi:=HPi.out
    have m3:=hPi.cell 3 rfl
    clear hbt hbg ht hP hb13 hnn
    go_wp2_with (refine zr rfl 233 _ rfl p rfl 233 _ hPi _ Tryz.underlying233 rfl (by kernel_rfl) ?_)
    refine (HBGi.out wr).mono ?_
    rintro e w3 ⟨rfl,hU3⟩
    have hP3:=HPi.out.upd hU3 (by simp)
    have HQ3:=Lib.hid (HQi.out.upd hU3 (by simp))
    have HU3:=Lib.hid (HUi.out.then hU3)
    have HP3:=Lib.hid hP3
    clear hU3 hPi m3
    by_cases hq:q≤n
    · have hqz:(q:Int)≤(n:Int):=by omega
      have hwb:IntKind.i64.wrap ((n:Int)-(q:Int))=((n-q:Nat):Int):=by rw [IntWalk.i64_in _ (by omega)]; omega
      have mA:=hP3.all
      have m3:=hP3.cell 3 rfl
      go_wp2_with fail
      refine (HBTi.out w3).mono ?_
      rintro e w4 ⟨rfl,hU4⟩
      have hP4:=HP3.out.upd hU4 (by simp)
      have HQ4:=Lib.hid (HQ3.out.upd hU4 (by simp))
      have HU4:=Lib.hid (HU3.out.then hU4)
      have HP4:=Lib.hid hP4
      clear hU4 hP3 mA m3
      by_cases hp:n<q+P
      · have hpz:(n:Int)<((q+P:Nat):Int):=by omega
        have HRI:Hid (r=i):=Lib.hid (by
         have h1:=HFi.out
         rw [HFS.out,if_pos (HIN.out.2 ⟨hq,hp⟩)] at h1
         exact (Option.some.inj h1).symm)
        have hpw:=HPW.out
        go_wp2_with (refine zr rfl 233 _ rfl p rfl 233 _ hP4 _ Tryz.underlying233 rfl (by kernel_rfl) ?_)
        refine (HBTi.out w4).mono ?_
        rintro e w5 ⟨rfl,hU5⟩
        have hQ5:=HQ4.out.upd hU5 (by simp)
        have HU5:=Lib.hid (HU4.out.then hU5)
        have fA:=hQ5.frz
        have cA:=hQ5.all
        have HQ5:=Lib.hid hQ5
        clear hU5 hP4 hQ5
        go_wp2
        have hB9:=((HQ5.out.set 0 (.int .i64 (i:Nat))).set 1 (.int .i64 (t:Nat))).set 2 (.int .i64 ((n-q:Nat):Int))
        refine bodyPost_ret (ju rfl _ _ (p+1) _ _ _ _ (.bool true) (by simp [Act.put]) (by simp [Act.put]) hB9 Tryz.underlying207 rfl (by rw [Qq]; rfl)) (by simp [Act.put]) ⟨?_,?_⟩
        · rw [HRI.out,HSV.out]; rfl
        · exact ((HU5.out.setCell (.inr (by rw [HP0.out]; simp)) _).setCell (.inr (by rw [HP0.out]; simp)) _).setCell (.inr (by rw [HP0.out]; simp)) _
      · have hpz : ¬ (n:Int)<((q+P:Nat):Int):=by omega
        have HF2:Hid (vz B G F M n (M-(i+1)) (i+1)=some r):=Lib.hid (by
         have h1:=HFi.out
         rw [HFS.out,if_neg (fun h=>hp (HIN.out.1 h).2)] at h1
         exact h1)
        have hpw:=HPW.out
        go_wp2
        clear hpw
        go_roundg (100-(i+1))
        · exact ⟨i+1,by omega,by first | rfl | omega,by first | rfl | go_num,HF2,HU4,HP4,HQ4⟩
        · omega
    · have hqz : ¬ (q:Int)≤(n:Int):=by omega
      have HF2:Hid (vz B G F M n (M-(i+1)) (i+1)=some r):=Lib.hid (by
       have h1:=HFi.out
       rw [HFS.out,if_neg (fun h=>hq (HIN.out.1 h).1)] at h1
       exact h1)
      go_wp2
      go_roundg (100-(i+1))
      · exact ⟨i+1,by omega,by first | rfl | omega,by first | rfl | go_num,HF2,HU3,HP3,HQ3⟩
      · omega
  · exfalso
    have h1:=HFi.out
    rw [show M-i=0 by omega,zct] at h1
    cases h1
end Go.Proofs.YtfkcdnaghndgfaaGreatDoor
