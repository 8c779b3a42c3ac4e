/-
  lex: blanks, words, numbers, texts and signs. lex: numbers, texts and words. lex.word: the words true and false. lex.rules: the readers by their first bytes.
  lex.token: the mark that begins at a place.
  lex.Next and lex.All.
  Values that a call reads into blocks of its own, while other blocks of its own change: worlds with some blocks hidden.
  Maps of repositories plainly: names, patterns, mappings, the map of a value; how maps lie in memory.
  Names and patterns by the program: name.allowed, Role, Path, Pattern; chart.wrongPaths, wrongRepos.
-/
import Derived.Test.YtaloajeldimpnaaGreatDoorQuoteB
import Derived.Test.YtaloajeldimpnaaGreatDoorLexP
import Derived.Laws.EntriesVeiled
import Derived.Deep.WholeRow
import Derived.Deep.QuietTactic
import Derived.BigQuiet
import Derived.Test.YtaloajeldimpnaaGreatDoorBlk
import Derived.Test.YtaloajeldimpnaaGreatDoorSignP
namespace Go.Proofs.YtaloajeldimpnaaGreatDoor
section
set_option maxRecDepth 100000
section
open Go.RowKit
theorem blanks_yes {c:UInt8} (r:List UInt8) (h:isBlank c = true):blanks (c :: r) = blanks r + 1:=by
 unfold blanks
 rw [List.takeWhile_cons,if_pos h,List.length_cons]
theorem blank_no {c:UInt8} (h:isBlank c = false):c.toNat ≠ 32 ∧ c.toNat ≠ 9 ∧ c.toNat ≠ 10 ∧ c.toNat ≠ 13:=by
 simp [isBlank] at h
 omega
theorem beq_u8 {c:UInt8} {k:Nat} (h:c.toNat = k):((c.toNat:Int) == (k:Int)) = true:=by rw [h]; simp
theorem bne_u8 {c:UInt8} {k:Nat} (h:c.toNat ≠ k):((c.toNat:Int) == (k:Int)) = false:=beq_eq_false_iff_ne.2 (by omega)
set_option maxHeartbeats 2000000 in
theorem skip_any (s:ByteArray) (a:Nat) (w:World) (hs:s.size ≤ 281474976710656) (ha:a ≤ s.size) (z:Nat) (hz:Hid (a + blanks (s.data.toList.drop a) = z)) :
 Calls Tryz.prog 128 #[.string s,.int .i64 a] w fun e w' => e = .returned (.int .i64 z) ∧ w = w':=by
 go_enter Tryz.func128,Tryz.ntmps128
 go_wp2_with fail
 go_loop [1] (fun p => ∃ q:Nat,q ≤ s.size ∧ p = .int .i64 q ∧ Hid (q + blanks (s.data.toList.drop q) = z)) (fun p => s.size - (intOf p).toNat)
 case atStart => exact ⟨a,ha,rfl,hz⟩
 case round =>
  obtain ⟨q,hq,rfl,HQ⟩:=hrel
  by_cases hlt:q < s.size
  ·have hdr:=drop_at hlt
   have hst:=HQ.out
   rw [hdr] at hst
   by_cases hb:isBlank s[q] = true
   ·rw [blanks_yes _ hb] at hst
    have HST:=Lib.hid (show q + 1 + blanks (s.data.toList.drop (q + 1)) = z by omega)
    have hcs:=blank_cases hb
    clear hst hdr HQ hb
    rcases hcs with h | h | h | h
    ·have b1:((s[q].toNat:Int) == 32) = true:=beq_u8 h
     clear h
     go_wp2_with fail
     refine ⟨⟨q + 1,by omega,by go_num,HST⟩,by simp [intOf]; omega⟩
    ·have b1:((s[q].toNat:Int) == 32) = false:=bne_u8 (k:=32) (by omega)
     have b2:((s[q].toNat:Int) == 9) = true:=beq_u8 h
     clear h
     go_wp2_with fail
     refine ⟨⟨q + 1,by omega,by go_num,HST⟩,by simp [intOf]; omega⟩
    ·have b1:((s[q].toNat:Int) == 32) = false:=bne_u8 (k:=32) (by omega)
     have b2:((s[q].toNat:Int) == 9) = false:=bne_u8 (k:=9) (by omega)
     have b3:((s[q].toNat:Int) == 10) = true:=beq_u8 h
     clear h
     go_wp2_with fail
     refine ⟨⟨q + 1,by omega,by go_num,HST⟩,by simp [intOf]; omega⟩
    ·have b1:((s[q].toNat:Int) == 32) = false:=bne_u8 (k:=32) (by omega)
     have b2:((s[q].toNat:Int) == 9) = false:=bne_u8 (k:=9) (by omega)
     have b3:((s[q].toNat:Int) == 10) = false:=bne_u8 (k:=10) (by omega)
     have b4:((s[q].toNat:Int) == 13) = true:=beq_u8 h
     clear h
     go_wp2_with fail
     refine ⟨⟨q + 1,by omega,by go_num,HST⟩,by simp [intOf]; omega⟩
   ·have hb':isBlank s[q] = false:=by simpa using hb
    obtain ⟨n1,n2,n3,n4⟩:=blank_no hb'
    rw [blanks_zero _ hb',Nat.add_zero] at hst
    subst hst
    have b1:((s[q].toNat:Int) == 32) = false:=bne_u8 (k:=32) n1
    have b2:((s[q].toNat:Int) == 9) = false:=bne_u8 (k:=9) n2
    have b3:((s[q].toNat:Int) == 10) = false:=bne_u8 (k:=10) n3
    have b4:((s[q].toNat:Int) == 13) = false:=bne_u8 (k:=13) n4
    clear hdr HQ hb hb' n1 n2 n3 n4
    go_wp2_with fail
    go_ret
    exact ⟨rfl,rfl⟩
  ·have hst:=HQ.out
   rw [drop_none (by omega)] at hst
   have hst':q = z:=hst
   subst hst'
   clear hst HQ
   go_wp2_with fail
   go_ret
   exact ⟨rfl,rfl⟩
theorem bel_set5 {a b:World} (h:Below a.heap.size a b) {g:Nat} (hg:a.heap.size ≤ g) (v0 v1 v2 v3 v4:Value):Below a.heap.size a (((((b.setCell ⟨g,0,none⟩ v0).setCell ⟨g,1,none⟩ v1).setCell ⟨g,2,none⟩ v2).setCell ⟨g,3,none⟩ v3).setCell ⟨g,4,none⟩ v4) :=
 bel_set (bel_set (bel_set (bel_set (bel_set h (p:=⟨g,0,none⟩) hg v0) (p:=⟨g,1,none⟩) hg v1) (p:=⟨g,2,none⟩) hg v2) (p:=⟨g,3,none⟩) hg v3) (p:=⟨g,4,none⟩) hg v4
def tokR (p:Nat) (x:Tok):Mk × Int:=if x.e ≠ 0 then (⟨0,0,0,0,[]⟩,x.e) else (x.at p,0)
def resV (x:Mk × Int):Int × Int × Int × Int × ByteArray × Int:=(x.1.k,(x.1.a:Int),(x.1.z:Int),x.1.n,⟨x.1.t.toArray⟩,x.2)
theorem resV_bad {p:Nat} {e k x z n er:Int} {t:ByteArray} (he:e ≠ 0) (h:resV (tokR p (.bad e)) = (k,x,z,n,t,er)):k = 0 ∧ x = 0 ∧ z = 0 ∧ n = 0 ∧ t = ⟨#[]⟩ ∧ er = e:=by
 unfold tokR at h
 rw [if_pos (show (Tok.bad e).e ≠ 0 from he)] at h
 simp only [resV,Prod.mk.injEq] at h
 exact ⟨h.1.symm,h.2.1.symm,h.2.2.1.symm,h.2.2.2.1.symm,h.2.2.2.2.1.symm,h.2.2.2.2.2.symm⟩
theorem resV_ok {p:Nat} {k0:Int} {l0:Nat} {n0:Int} {t0:List UInt8} {k x z n er:Int} {t:ByteArray} (h:resV (tokR p ⟨k0,l0,n0,t0,0⟩) = (k,x,z,n,t,er)):k = k0 ∧ x = (p:Int) ∧ z = (p:Int) + l0 ∧ n = n0 ∧ t = ⟨t0.toArray⟩ ∧ er = 0:=by
 unfold tokR at h
 rw [if_neg (by simp)] at h
 simp only [resV,Tok.at,Prod.mk.injEq] at h
 exact ⟨h.1.symm,h.2.1.symm,by rw [← h.2.2.1]; omega,h.2.2.2.1.symm,h.2.2.2.2.1.symm,h.2.2.2.2.2.symm⟩
set_option maxHeartbeats 2000000 in
theorem sign_any (k:Int) (a:Nat) (w:World) (ha:a ≤ 281474976710656) :
 Calls Tryz.prog 152 #[.int .u8 k,.int .i64 a] w fun e w' => e = .returned (.tuple #[.agg #[.int .u8 k,.int .i64 a,.int .i64 ((a:Int) + 1),.int .i64 0,.string ⟨#[]⟩],.int .i64 0]) ∧ Below w.heap.size w w':=by
 go_enter Tryz.func152,Tryz.ntmps152
 go_wp2_with fail
 exact bodyPost_ret (v:=.tuple #[.agg #[.int .u8 k,.int .i64 a,.int .i64 ((a:Int) + 1),.int .i64 0,.string ⟨#[]⟩],.int .i64 0]) (by simp [results,Tryz.results152,go_sem]) rfl ⟨rfl,bel_alloc (Below.refl _ _) _⟩
set_option maxHeartbeats 2000000 in
theorem sign_open (s:ByteArray) (a:Nat) (w:World) (ha:a ≤ 281474976710656) :
 Calls Tryz.prog 138 #[.string s,.int .i64 a] w fun e w' => e = .returned (.tuple #[.agg #[.int .u8 1,.int .i64 a,.int .i64 ((a:Int) + 1),.int .i64 0,.string ⟨#[]⟩],.int .i64 0]) ∧ Below w.heap.size w w':=by
 go_enter Tryz.func138,Tryz.ntmps138
 go_wp2_with fail
 refine (sign_any _ a _ ha).mono ?_
 rintro e w2 ⟨rfl,hb2⟩
 have hsz:w.heap.size < w2.heap.size:=by have:=hb2.size; simp at this; omega
 obtain ⟨hc,hf⟩:=bcell hb2
 go_wp2_with fail
 exact bodyPost_ret (v:=.tuple #[.agg #[.int .u8 1,.int .i64 a,.int .i64 ((a:Int) + 1),.int .i64 0,.string ⟨#[]⟩],.int .i64 0]) (by simp [results,Tryz.results138,go_sem,hc]) rfl ⟨rfl,bel_set5 (below_more (bel_alloc (Below.refl _ _) _) hb2) (Nat.le_refl _) _ _ _ _ _⟩
set_option maxHeartbeats 2000000 in
theorem sign_shut (s:ByteArray) (a:Nat) (w:World) (ha:a ≤ 281474976710656) :
 Calls Tryz.prog 139 #[.string s,.int .i64 a] w fun e w' => e = .returned (.tuple #[.agg #[.int .u8 2,.int .i64 a,.int .i64 ((a:Int) + 1),.int .i64 0,.string ⟨#[]⟩],.int .i64 0]) ∧ Below w.heap.size w w':=by
 go_enter Tryz.func139,Tryz.ntmps139
 go_wp2_with fail
 refine (sign_any _ a _ ha).mono ?_
 rintro e w2 ⟨rfl,hb2⟩
 have hsz:w.heap.size < w2.heap.size:=by have:=hb2.size; simp at this; omega
 obtain ⟨hc,hf⟩:=bcell hb2
 go_wp2_with fail
 exact bodyPost_ret (v:=.tuple #[.agg #[.int .u8 2,.int .i64 a,.int .i64 ((a:Int) + 1),.int .i64 0,.string ⟨#[]⟩],.int .i64 0]) (by simp [results,Tryz.results139,go_sem,hc]) rfl ⟨rfl,bel_set5 (below_more (bel_alloc (Below.refl _ _) _) hb2) (Nat.le_refl _) _ _ _ _ _⟩
set_option maxHeartbeats 2000000 in
theorem sign_first (s:ByteArray) (a:Nat) (w:World) (ha:a ≤ 281474976710656) :
 Calls Tryz.prog 140 #[.string s,.int .i64 a] w fun e w' => e = .returned (.tuple #[.agg #[.int .u8 3,.int .i64 a,.int .i64 ((a:Int) + 1),.int .i64 0,.string ⟨#[]⟩],.int .i64 0]) ∧ Below w.heap.size w w':=by
 go_enter Tryz.func140,Tryz.ntmps140
 go_wp2_with fail
 refine (sign_any _ a _ ha).mono ?_
 rintro e w2 ⟨rfl,hb2⟩
 have hsz:w.heap.size < w2.heap.size:=by have:=hb2.size; simp at this; omega
 obtain ⟨hc,hf⟩:=bcell hb2
 go_wp2_with fail
 exact bodyPost_ret (v:=.tuple #[.agg #[.int .u8 3,.int .i64 a,.int .i64 ((a:Int) + 1),.int .i64 0,.string ⟨#[]⟩],.int .i64 0]) (by simp [results,Tryz.results140,go_sem,hc]) rfl ⟨rfl,bel_set5 (below_more (bel_alloc (Below.refl _ _) _) hb2) (Nat.le_refl _) _ _ _ _ _⟩
set_option maxHeartbeats 2000000 in
theorem sign_last (s:ByteArray) (a:Nat) (w:World) (ha:a ≤ 281474976710656) :
 Calls Tryz.prog 141 #[.string s,.int .i64 a] w fun e w' => e = .returned (.tuple #[.agg #[.int .u8 4,.int .i64 a,.int .i64 ((a:Int) + 1),.int .i64 0,.string ⟨#[]⟩],.int .i64 0]) ∧ Below w.heap.size w w':=by
 go_enter Tryz.func141,Tryz.ntmps141
 go_wp2_with fail
 refine (sign_any _ a _ ha).mono ?_
 rintro e w2 ⟨rfl,hb2⟩
 have hsz:w.heap.size < w2.heap.size:=by have:=hb2.size; simp at this; omega
 obtain ⟨hc,hf⟩:=bcell hb2
 go_wp2_with fail
 exact bodyPost_ret (v:=.tuple #[.agg #[.int .u8 4,.int .i64 a,.int .i64 ((a:Int) + 1),.int .i64 0,.string ⟨#[]⟩],.int .i64 0]) (by simp [results,Tryz.results141,go_sem,hc]) rfl ⟨rfl,bel_set5 (below_more (bel_alloc (Below.refl _ _) _) hb2) (Nat.le_refl _) _ _ _ _ _⟩
set_option maxHeartbeats 2000000 in
theorem sign_comma (s:ByteArray) (a:Nat) (w:World) (ha:a ≤ 281474976710656) :
 Calls Tryz.prog 142 #[.string s,.int .i64 a] w fun e w' => e = .returned (.tuple #[.agg #[.int .u8 5,.int .i64 a,.int .i64 ((a:Int) + 1),.int .i64 0,.string ⟨#[]⟩],.int .i64 0]) ∧ Below w.heap.size w w':=by
 go_enter Tryz.func142,Tryz.ntmps142
 go_wp2_with fail
 refine (sign_any _ a _ ha).mono ?_
 rintro e w2 ⟨rfl,hb2⟩
 have hsz:w.heap.size < w2.heap.size:=by have:=hb2.size; simp at this; omega
 obtain ⟨hc,hf⟩:=bcell hb2
 go_wp2_with fail
 exact bodyPost_ret (v:=.tuple #[.agg #[.int .u8 5,.int .i64 a,.int .i64 ((a:Int) + 1),.int .i64 0,.string ⟨#[]⟩],.int .i64 0]) (by simp [results,Tryz.results142,go_sem,hc]) rfl ⟨rfl,bel_set5 (below_more (bel_alloc (Below.refl _ _) _) hb2) (Nat.le_refl _) _ _ _ _ _⟩
set_option maxHeartbeats 2000000 in
theorem sign_colon (s:ByteArray) (a:Nat) (w:World) (ha:a ≤ 281474976710656) :
 Calls Tryz.prog 143 #[.string s,.int .i64 a] w fun e w' => e = .returned (.tuple #[.agg #[.int .u8 6,.int .i64 a,.int .i64 ((a:Int) + 1),.int .i64 0,.string ⟨#[]⟩],.int .i64 0]) ∧ Below w.heap.size w w':=by
 go_enter Tryz.func143,Tryz.ntmps143
 go_wp2_with fail
 refine (sign_any _ a _ ha).mono ?_
 rintro e w2 ⟨rfl,hb2⟩
 have hsz:w.heap.size < w2.heap.size:=by have:=hb2.size; simp at this; omega
 obtain ⟨hc,hf⟩:=bcell hb2
 go_wp2_with fail
 exact bodyPost_ret (v:=.tuple #[.agg #[.int .u8 6,.int .i64 a,.int .i64 ((a:Int) + 1),.int .i64 0,.string ⟨#[]⟩],.int .i64 0]) (by simp [results,Tryz.results143,go_sem,hc]) rfl ⟨rfl,bel_set5 (below_more (bel_alloc (Below.refl _ _) _) hb2) (Nat.le_refl _) _ _ _ _ _⟩
end
section
open Go.RowKit
set_option maxHeartbeats 2000000 in
theorem number_any (s:ByteArray) (a:Nat) (w:World) (hs:s.size ≤ 281474976710656) (ha:a ≤ s.size) (henv:NumEnv w) (k x z n:Int) (t:ByteArray) (er:Int) (hr:Hid (resV (tokR a (numP (s.data.toList.drop a))) = (k,x,z,n,t,er))) :
 Calls Tryz.prog 144 #[.string s,.int .i64 a] w fun e w' => e = .returned (.tuple #[.agg #[.int .u8 k,.int .i64 x,.int .i64 z,.int .i64 n,.string t],.int .i64 er]) ∧ Below w.heap.size w w':=by
 have hal:Below w.heap.size w (w.alloc (.cells #[.int .u8 0,.int .i64 0,.int .i64 0,.int .i64 0,.string ⟨#[]⟩] 118)):=bel_alloc (Below.refl _ _) _
 have henv2:=henv.below hal
 obtain ⟨r1,r2,r3,hR⟩:∃ r1 r2 r3,readP s.data.toList a = (r1,r2,r3):=⟨_,_,_,rfl⟩
 have HC:=Lib.hid (Read_in s a _ hs ha henv2 r1 r2 r3 hR)
 have h:=hr.out
 rw [readP_in (by rw [size_len]; exact ha)] at hR
 unfold numP at h
 have hrun:Nm.run s.data.toList a = (s.data.toList.drop a).takeWhile Nm.isN:=rfl
 rw [hrun] at hR
 clear hrun hr hal
 by_cases h1:Nm.form ((s.data.toList.drop a).takeWhile Nm.isN) = false
 ·rw [if_pos h1] at h hR
  obtain ⟨rfl,rfl,rfl,rfl,rfl,rfl⟩:=resV_bad (by decide) h
  simp only [Prod.mk.injEq] at hR
  obtain ⟨rfl,rfl,rfl⟩:=hR
  clear h h1 henv henv2
  go_enter Tryz.func144,Tryz.ntmps144
  go_wp2_with fail
  refine HC.out.mono ?_
  rintro e w2 ⟨rfl,hb2⟩
  have hsz:w.heap.size < w2.heap.size:=by have:=hb2.size; simp at this; omega
  obtain ⟨hc,hf⟩:=bcell hb2
  go_wp2_with fail
  exact bodyPost_ret (v:=.tuple #[.agg #[.int .u8 0,.int .i64 0,.int .i64 0,.int .i64 0,.string ⟨#[]⟩],.int .i64 3]) (by simp [results,Tryz.results144,go_sem,hc]) rfl ⟨rfl,bel_set5 (below_more (bel_alloc (Below.refl _ _) _) hb2) (Nat.le_refl _) _ _ _ _ _⟩
 ·rw [if_neg h1] at h hR
  by_cases h2:-9223372036854775808 ≤ Nm.val ((s.data.toList.drop a).takeWhile Nm.isN) ∧ Nm.val ((s.data.toList.drop a).takeWhile Nm.isN) ≤ 9223372036854775807
  ·rw [if_pos h2] at h hR
   obtain ⟨rfl,rfl,hz,rfl,rfl,rfl⟩:=resV_ok h
   simp only [Prod.mk.injEq] at hR
   obtain ⟨rfl,e2,rfl⟩:=hR
   rw [← hz] at e2
   obtain ⟨n,hn⟩:∃ n:Int,Nm.val ((s.data.toList.drop a).takeWhile Nm.isN) = n:=⟨_,rfl⟩
   rw [hn] at HC ⊢
   subst e2
   clear h h1 h2 hz hn henv henv2
   go_enter Tryz.func144,Tryz.ntmps144
   go_wp2_with fail
   refine HC.out.mono ?_
   rintro e w2 ⟨rfl,hb2⟩
   have hsz:w.heap.size < w2.heap.size:=by have:=hb2.size; simp at this; omega
   obtain ⟨hc,hf⟩:=bcell hb2
   go_wp2_with fail
   exact bodyPost_ret (v:=.tuple #[.agg #[.int .u8 9,.int .i64 a,.int .i64 z,.int .i64 n,.string ⟨#[]⟩],.int .i64 0]) (by simp [results,Tryz.results144,go_sem,hc]) rfl ⟨rfl,bel_set5 (below_more (bel_alloc (Below.refl _ _) _) hb2) (Nat.le_refl _) _ _ _ _ _⟩
  ·rw [if_neg h2] at h hR
   obtain ⟨rfl,rfl,rfl,rfl,rfl,rfl⟩:=resV_bad (by decide) h
   simp only [Prod.mk.injEq] at hR
   obtain ⟨rfl,rfl,rfl⟩:=hR
   clear h h1 h2 henv henv2
   go_enter Tryz.func144,Tryz.ntmps144
   go_wp2_with fail
   refine HC.out.mono ?_
   rintro e w2 ⟨rfl,hb2⟩
   have hsz:w.heap.size < w2.heap.size:=by have:=hb2.size; simp at this; omega
   obtain ⟨hc,hf⟩:=bcell hb2
   go_wp2_with fail
   exact bodyPost_ret (v:=.tuple #[.agg #[.int .u8 0,.int .i64 0,.int .i64 0,.int .i64 0,.string ⟨#[]⟩],.int .i64 9]) (by simp [results,Tryz.results144,go_sem,hc]) rfl ⟨rfl,bel_set5 (below_more (bel_alloc (Below.refl _ _) _) hb2) (Nat.le_refl _) _ _ _ _ _⟩
set_option maxHeartbeats 2000000 in
theorem text_lex (s:ByteArray) (a:Nat) (w:World) (hs:s.size ≤ 281474976710656) (ha:a < s.size) (hq:s[a].toNat = 34) (k x z n:Int) (t:ByteArray) (er:Int) (hr:Hid (resV (tokR a (textP (s.data.toList.drop (a + 1)))) = (k,x,z,n,t,er))) :
 Calls Tryz.prog 145 #[.string s,.int .i64 a] w fun e w' => e = .returned (.tuple #[.agg #[.int .u8 k,.int .i64 x,.int .i64 z,.int .i64 n,.string t],.int .i64 er]) ∧ Below w.heap.size w w':=by
 obtain ⟨l,c,e,hR⟩:∃ l c e,strQ (s.data.toList.drop (a + 1)) [] = (l,c,e):=⟨_,_,_,rfl⟩
 have h:=hr.out
 rw [textP_eq,hR] at h
 simp only [] at h
 by_cases h1:e ≠ 0
 ·rw [if_pos h1] at h
  obtain ⟨rfl,rfl,rfl,rfl,rfl,rfl⟩:=resV_bad h1 h
  have HC:=Lib.hid (fun W => quoteRead_any s a W hs ha hq [] 0 er (show strR (a + 1) (strQ (s.data.toList.drop (a + 1)) []) = _ by rw [hR,strR,if_pos h1]))
  have heb:(er != 0) = true:=by rw [bne_iff_ne]; exact h1
  clear h h1 hR hr hq
  go_enter Tryz.func145,Tryz.ntmps145
  go_wp2_with fail
  refine (HC.out _).mono ?_
  rintro e w2 ⟨rfl,hb2⟩
  have hsz:w.heap.size < w2.heap.size:=by have:=hb2.size; simp at this; omega
  obtain ⟨hc,hf⟩:=bcell hb2
  go_wp2_with fail
  exact bodyPost_ret (v:=.tuple #[.agg #[.int .u8 0,.int .i64 0,.int .i64 0,.int .i64 0,.string ⟨#[]⟩],.int .i64 er]) (by simp [results,Tryz.results145,go_sem,hc]) rfl ⟨rfl,bel_set5 (below_more (bel_alloc (Below.refl _ _) _) hb2) (Nat.le_refl _) _ _ _ _ _⟩
 ·rw [if_neg h1] at h
  have h0:e = 0:=by simpa using h1
  subst h0
  obtain ⟨rfl,rfl,hz,rfl,ht,rfl⟩:=resV_ok h
  have HC:=Lib.hid (fun W => quoteRead_any s a W hs ha hq l z 0 (show strR (a + 1) (strQ (s.data.toList.drop (a + 1)) []) = _ by rw [hR,strR,if_neg h1,hz]; simp only [Prod.mk.injEq,true_and,and_true]; omega))
  rw [← ht] at HC
  clear h h1 hz hR hr hq ht
  go_enter Tryz.func145,Tryz.ntmps145
  go_wp2_with fail
  refine (HC.out _).mono ?_
  rintro e w2 ⟨rfl,hb2⟩
  have hsz:w.heap.size < w2.heap.size:=by have:=hb2.size; simp at this; omega
  obtain ⟨hc,hf⟩:=bcell hb2
  go_wp2_with fail
  exact bodyPost_ret (v:=.tuple #[.agg #[.int .u8 10,.int .i64 a,.int .i64 z,.int .i64 0,.string t],.int .i64 0]) (by simp [results,Tryz.results145,go_sem,hc]) rfl ⟨rfl,bel_set5 (below_more (bel_alloc (Below.refl _ _) _) hb2) (Nat.le_refl _) _ _ _ _ _⟩
end
section
open Go.RowKit
theorem low_yes {c:UInt8} (h:isLow c = true):(97:Int) ≤ (c.toNat:Int) ∧ (c.toNat:Int) ≤ 122:=by
 simp [isLow] at h
 omega
theorem low_no {c:UInt8} (h:isLow c = false):¬ ((97:Int) ≤ (c.toNat:Int)) ∨ ((97:Int) ≤ (c.toNat:Int) ∧ ¬ (c.toNat:Int) ≤ 122):=by
 simp [isLow] at h
 omega
theorem get_at {s:ByteArray} {q:Nat} (h:q < s.size):s.data.toList[q]? = some s[q]:=Lib.data_getElem? s q h
theorem take_at {s:ByteArray} {a q:Nat} (ha:a ≤ q) (h:q < s.size):(s.data.toList.drop a).take (q + 1 - a) = (s.data.toList.drop a).take (q - a) ++ [s[q]]:=by
 rw [show q + 1 - a = q - a + 1 by omega,List.take_add_one,List.getElem?_drop,show a + (q - a) = q by omega,get_at h]
 rfl
theorem word_step {s:ByteArray} {a q:Nat} (ha:a ≤ q) (h:q < s.size) (hl:isLow s[q] = true) (H:(s.data.toList.drop a).takeWhile isLow = (s.data.toList.drop a).take (q - a) ++ (s.data.toList.drop q).takeWhile isLow) :
 (s.data.toList.drop a).takeWhile isLow = (s.data.toList.drop a).take (q + 1 - a) ++ (s.data.toList.drop (q + 1)).takeWhile isLow:=by
 rw [H,drop_at h,List.takeWhile_cons,if_pos hl,take_at ha h,List.append_assoc]
 rfl
theorem ext_list (s:ByteArray) (a q:Nat):(s.extract a q).toList = (s.data.toList.drop a).take (q - a):=by
 rw [toList_data,Lib.extract_data]
theorem word_end {s:ByteArray} {a q:Nat} (ha:a ≤ q) (hq:q ≤ s.size) (hstop:∀ h:q < s.size,isLow s[q] = false) (H:(s.data.toList.drop a).takeWhile isLow = (s.data.toList.drop a).take (q - a) ++ (s.data.toList.drop q).takeWhile isLow) :
 (s.extract a q).toList = (s.data.toList.drop a).takeWhile isLow ∧ q = a + ((s.data.toList.drop a).takeWhile isLow).length:=by
 have h0:(s.data.toList.drop q).takeWhile isLow = []:=by
  by_cases h:q < s.size
  ·rw [drop_at h,List.takeWhile_cons,if_neg (by simp [hstop h])]
  ·rw [drop_none (by omega)]; rfl
 rw [h0,List.append_nil] at H
 refine ⟨by rw [ext_list,H],?_⟩
 rw [H,List.length_take,List.length_drop,size_len]
 omega
set_option maxHeartbeats 4000000 in
theorem word_any (s:ByteArray) (a:Nat) (w:World) (hs:s.size ≤ 281474976710656) (ha:a ≤ s.size) (k x z n:Int) (t:ByteArray) (er:Int) (hr:Hid (resV (tokR a (wordP (s.data.toList.drop a))) = (k,x,z,n,t,er))) :
 Calls Tryz.prog 146 #[.string s,.int .i64 a] w fun e w' => e = .returned (.tuple #[.agg #[.int .u8 k,.int .i64 x,.int .i64 z,.int .i64 n,.string t],.int .i64 er]) ∧ Below w.heap.size w w':=by
 go_enter Tryz.func146,Tryz.ntmps146
 go_wp2_with fail
 go_loop [6] (fun p => ∃ q:Nat,a ≤ q ∧ q ≤ s.size ∧ p = .int .i64 q ∧ Hid ((s.data.toList.drop a).takeWhile isLow = (s.data.toList.drop a).take (q - a) ++ (s.data.toList.drop q).takeWhile isLow)) (fun p => s.size - (intOf p).toNat)
 case atStart => exact ⟨a,Nat.le_refl _,ha,rfl,by show _ = _; simp⟩
 case round =>
  obtain ⟨q,haq,hq,rfl,HQ⟩:=hrel
  by_cases hlt:q < s.size
  ·by_cases hb:isLow s[q] = true
   ·obtain ⟨b1,b2⟩:=low_yes hb
    have HST:=Lib.hid (word_step haq hlt hb HQ.out)
    clear hb HQ
    go_wp2_with fail
    refine ⟨⟨q + 1,by omega,by omega,by go_num,HST⟩,by simp [intOf]; omega⟩
   ·have hb':isLow s[q] = false:=by simpa using hb
    have hno:=low_no hb'
    have HB:=Lib.hid hb'
    clear hb hb'
    rcases hno with h1 | ⟨h1,h2⟩
    ·have hW:=word_end haq hq (fun hh => HB.out) HQ.out
     by_cases w1:(s.data.toList.drop a).takeWhile isLow = [116,114,117,101]
     ·have e1:((s.extract a q).toList == [116,114,117,101]) = true:=by rw [hW.1,w1]; rfl
      have h:=hr.out
      unfold wordP at h
      rw [if_pos w1] at h
      obtain ⟨rfl,rfl,rfl,rfl,rfl,rfl⟩:=resV_ok h
      have hqa:q = a + 4:=by have:=hW.2; rw [w1] at this; simpa using this
      have HQA:=Lib.hid hqa
      clear w1 hW h hr HQ hqa
      go_wp2_with fail
      refine bodyPost_ret (v:=.tuple #[.agg #[.int .u8 7,.int .i64 a,.int .i64 q,.int .i64 0,.string ⟨#[]⟩],.int .i64 0]) (by simp [results,Tryz.results146,go_sem]) rfl ⟨?_,bel_alloc (Below.refl _ _) _⟩
      rw [HQA.out]; rfl
     ·have e1:((s.extract a q).toList == [116,114,117,101]) = false:=by rw [hW.1]; exact beq_eq_false_iff_ne.2 w1
      by_cases w2:(s.data.toList.drop a).takeWhile isLow = [102,97,108,115,101]
      ·have e2:((s.extract a q).toList == [102,97,108,115,101]) = true:=by rw [hW.1,w2]; rfl
       have h:=hr.out
       unfold wordP at h
       rw [if_neg w1,if_pos w2] at h
       obtain ⟨rfl,rfl,rfl,rfl,rfl,rfl⟩:=resV_ok h
       have hqa:q = a + 5:=by have:=hW.2; rw [w2] at this; simpa using this
       have HQA:=Lib.hid hqa
       clear w1 w2 hW h hr HQ hqa
       go_wp2_with fail
       refine bodyPost_ret (v:=.tuple #[.agg #[.int .u8 8,.int .i64 a,.int .i64 q,.int .i64 0,.string ⟨#[]⟩],.int .i64 0]) (by simp [results,Tryz.results146,go_sem]) rfl ⟨?_,bel_alloc (Below.refl _ _) _⟩
       rw [HQA.out]; rfl
      ·have e2:((s.extract a q).toList == [102,97,108,115,101]) = false:=by rw [hW.1]; exact beq_eq_false_iff_ne.2 w2
       have h:=hr.out
       unfold wordP at h
       rw [if_neg w1,if_neg w2] at h
       obtain ⟨rfl,rfl,rfl,rfl,rfl,rfl⟩:=resV_bad (by decide) h
       clear w1 w2 hW h hr HQ
       go_wp2_with fail
       exact bodyPost_ret (v:=.tuple #[.agg #[.int .u8 0,.int .i64 0,.int .i64 0,.int .i64 0,.string ⟨#[]⟩],.int .i64 3]) (by simp [results,Tryz.results146,go_sem]) rfl ⟨rfl,bel_alloc (Below.refl _ _) _⟩
    ·have hW:=word_end haq hq (fun hh => HB.out) HQ.out
     by_cases w1:(s.data.toList.drop a).takeWhile isLow = [116,114,117,101]
     ·have e1:((s.extract a q).toList == [116,114,117,101]) = true:=by rw [hW.1,w1]; rfl
      have h:=hr.out
      unfold wordP at h
      rw [if_pos w1] at h
      obtain ⟨rfl,rfl,rfl,rfl,rfl,rfl⟩:=resV_ok h
      have hqa:q = a + 4:=by have:=hW.2; rw [w1] at this; simpa using this
      have HQA:=Lib.hid hqa
      clear w1 hW h hr HQ hqa
      go_wp2_with fail
      refine bodyPost_ret (v:=.tuple #[.agg #[.int .u8 7,.int .i64 a,.int .i64 q,.int .i64 0,.string ⟨#[]⟩],.int .i64 0]) (by simp [results,Tryz.results146,go_sem]) rfl ⟨?_,bel_alloc (Below.refl _ _) _⟩
      rw [HQA.out]; rfl
     ·have e1:((s.extract a q).toList == [116,114,117,101]) = false:=by rw [hW.1]; exact beq_eq_false_iff_ne.2 w1
      by_cases w2:(s.data.toList.drop a).takeWhile isLow = [102,97,108,115,101]
      ·have e2:((s.extract a q).toList == [102,97,108,115,101]) = true:=by rw [hW.1,w2]; rfl
       have h:=hr.out
       unfold wordP at h
       rw [if_neg w1,if_pos w2] at h
       obtain ⟨rfl,rfl,rfl,rfl,rfl,rfl⟩:=resV_ok h
       have hqa:q = a + 5:=by have:=hW.2; rw [w2] at this; simpa using this
       have HQA:=Lib.hid hqa
       clear w1 w2 hW h hr HQ hqa
       go_wp2_with fail
       refine bodyPost_ret (v:=.tuple #[.agg #[.int .u8 8,.int .i64 a,.int .i64 q,.int .i64 0,.string ⟨#[]⟩],.int .i64 0]) (by simp [results,Tryz.results146,go_sem]) rfl ⟨?_,bel_alloc (Below.refl _ _) _⟩
       rw [HQA.out]; rfl
      ·have e2:((s.extract a q).toList == [102,97,108,115,101]) = false:=by rw [hW.1]; exact beq_eq_false_iff_ne.2 w2
       have h:=hr.out
       unfold wordP at h
       rw [if_neg w1,if_neg w2] at h
       obtain ⟨rfl,rfl,rfl,rfl,rfl,rfl⟩:=resV_bad (by decide) h
       clear w1 w2 hW h hr HQ
       go_wp2_with fail
       exact bodyPost_ret (v:=.tuple #[.agg #[.int .u8 0,.int .i64 0,.int .i64 0,.int .i64 0,.string ⟨#[]⟩],.int .i64 3]) (by simp [results,Tryz.results146,go_sem]) rfl ⟨rfl,bel_alloc (Below.refl _ _) _⟩
  ·have hW:=word_end haq hq (fun hh => absurd hh hlt) HQ.out
   by_cases w1:(s.data.toList.drop a).takeWhile isLow = [116,114,117,101]
   ·have e1:((s.extract a q).toList == [116,114,117,101]) = true:=by rw [hW.1,w1]; rfl
    have h:=hr.out
    unfold wordP at h
    rw [if_pos w1] at h
    obtain ⟨rfl,rfl,rfl,rfl,rfl,rfl⟩:=resV_ok h
    have hqa:q = a + 4:=by have:=hW.2; rw [w1] at this; simpa using this
    have HQA:=Lib.hid hqa
    clear w1 hW h hr HQ hqa
    go_wp2_with fail
    refine bodyPost_ret (v:=.tuple #[.agg #[.int .u8 7,.int .i64 a,.int .i64 q,.int .i64 0,.string ⟨#[]⟩],.int .i64 0]) (by simp [results,Tryz.results146,go_sem]) rfl ⟨?_,bel_alloc (Below.refl _ _) _⟩
    rw [HQA.out]; rfl
   ·have e1:((s.extract a q).toList == [116,114,117,101]) = false:=by rw [hW.1]; exact beq_eq_false_iff_ne.2 w1
    by_cases w2:(s.data.toList.drop a).takeWhile isLow = [102,97,108,115,101]
    ·have e2:((s.extract a q).toList == [102,97,108,115,101]) = true:=by rw [hW.1,w2]; rfl
     have h:=hr.out
     unfold wordP at h
     rw [if_neg w1,if_pos w2] at h
     obtain ⟨rfl,rfl,rfl,rfl,rfl,rfl⟩:=resV_ok h
     have hqa:q = a + 5:=by have:=hW.2; rw [w2] at this; simpa using this
     have HQA:=Lib.hid hqa
     clear w1 w2 hW h hr HQ hqa
     go_wp2_with fail
     refine bodyPost_ret (v:=.tuple #[.agg #[.int .u8 8,.int .i64 a,.int .i64 q,.int .i64 0,.string ⟨#[]⟩],.int .i64 0]) (by simp [results,Tryz.results146,go_sem]) rfl ⟨?_,bel_alloc (Below.refl _ _) _⟩
     rw [HQA.out]; rfl
    ·have e2:((s.extract a q).toList == [102,97,108,115,101]) = false:=by rw [hW.1]; exact beq_eq_false_iff_ne.2 w2
     have h:=hr.out
     unfold wordP at h
     rw [if_neg w1,if_neg w2] at h
     obtain ⟨rfl,rfl,rfl,rfl,rfl,rfl⟩:=resV_bad (by decide) h
     clear w1 w2 hW h hr HQ
     go_wp2_with fail
     exact bodyPost_ret (v:=.tuple #[.agg #[.int .u8 0,.int .i64 0,.int .i64 0,.int .i64 0,.string ⟨#[]⟩],.int .i64 3]) (by simp [results,Tryz.results146,go_sem]) rfl ⟨rfl,bel_alloc (Below.refl _ _) _⟩
end
section
open Go.RowKit
def ruleT0 (Z:Array Value):Array Value:=(((((((((Z.setIfInBounds 123 (.func (.func 138) #[] #[])).setIfInBounds 125 (.func (.func 139) #[] #[])).setIfInBounds 91 (.func (.func 140) #[] #[])).setIfInBounds 93 (.func (.func 141) #[] #[])).setIfInBounds 44 (.func (.func 142) #[] #[])).setIfInBounds 58 (.func (.func 143) #[] #[])).setIfInBounds 45 (.func (.func 144) #[] #[])).setIfInBounds 43 (.func (.func 144) #[] #[])).setIfInBounds 46 (.func (.func 144) #[] #[])).setIfInBounds 34 (.func (.func 145) #[] #[])
def ruleT1 (Z:Array Value):Nat → Array Value
 | 0 => ruleT0 Z
 | k + 1 => (ruleT1 Z k).setIfInBounds (48 + k) (.func (.func 144) #[] #[])
def ruleT2 (Z:Array Value):Nat → Array Value
 | 0 => ruleT1 Z 10
 | k + 1 => (ruleT2 Z k).setIfInBounds (97 + k) (.func (.func 146) #[] #[])
theorem ruleZ_size:Tryz.zeroCells168.size = 256:=by kernel_rfl
theorem ruleT0_size {Z:Array Value} (h:Z.size = 256):(ruleT0 Z).size = 256:=by unfold ruleT0; simp only [Array.size_setIfInBounds]; exact h
theorem ruleT1_size {Z:Array Value} (h:Z.size = 256):∀ k,(ruleT1 Z k).size = 256
 | 0 => ruleT0_size h
 | k + 1 => by rw [ruleT1,Array.size_setIfInBounds]; exact ruleT1_size h k
theorem ruleT2_size {Z:Array Value} (h:Z.size = 256):∀ k,(ruleT2 Z k).size = 256
 | 0 => ruleT1_size h 10
 | k + 1 => by rw [ruleT2,Array.size_setIfInBounds]; exact ruleT2_size h k
theorem ruleT0_one:(ruleT0 Tryz.zeroCells168).all (·.oneCell') = true:=by kernel_rfl
theorem ruleT_one:(ruleT2 Tryz.zeroCells168 26).all (·.oneCell') = true:=by kernel_rfl
theorem infoRules:(Tryz.prog.info? 168).map (·.size) = some 256:=by kernel_rfl
def ruleV (c:Nat):Value :=
 if c = 123 then .func (.func 138) #[] #[] else if c = 125 then .func (.func 139) #[] #[] else if c = 91 then .func (.func 140) #[] #[] else if c = 93 then .func (.func 141) #[] #[] else if c = 44 then .func (.func 142) #[] #[] else if c = 58 then .func (.func 143) #[] #[]
 else if c = 34 then .func (.func 145) #[] #[] else if (48 ≤ c ∧ c ≤ 57) ∨ c = 45 ∨ c = 43 ∨ c = 46 then .func (.func 144) #[] #[] else if 97 ≤ c ∧ c ≤ 122 then .func (.func 146) #[] #[] else .nilFunc
def ruleT:Array Value:=((List.range 256).map ruleV).toArray
theorem ruleT_eq:ruleT2 Tryz.zeroCells168 26 = ruleT:=by kernel_rfl
theorem ruleT_get {c:Nat} (h:c < 256):ruleT[c]? = some (ruleV c):=by
 unfold ruleT
 rw [List.getElem?_toArray,List.getElem?_map,List.getElem?_range h]
 rfl
theorem ruleT_size:ruleT.size = 256:=by rw [← ruleT_eq]; exact ruleT2_size ruleZ_size 26
theorem ruleT_one':ruleT.all (·.oneCell') = true:=by rw [← ruleT_eq]; exact ruleT_one
theorem set_al (w:World) (c:Array Value) (t:TypeId) (g i:Nat) (v:Value) (hg:g = w.heap.size):(w.alloc (.cells c t)).setCell ⟨g,i,none⟩ v = w.alloc (.cells (c.setIfInBounds i v) t):=by
 subst hg
 have hh:(w.alloc (.cells c t)).heap[w.heap.size]? = some (.cells c t (0,0)):=heap_alloc_last w _
 rw [setCell_eq_setRow _ _ i c t (0,0) v hh,World.setRow_alloc_new]
theorem bel_setRow {a b:World} (h:Below a.heap.size a b) {g:Nat} (cs:Array Value) (hg:a.heap.size ≤ g):Below a.heap.size a (b.setRow g cs) :=
 ⟨h.os,h.tape,h.output,by rw [size_setRow]; exact h.size,fun k hk => by rw [setRow_other b g k cs (by omega)]; exact h.block k hk⟩
set_option maxHeartbeats 2000000 in
theorem rules_any (w:World):Calls Tryz.prog 126 #[] w fun e w' => e = .returned (.agg ruleT) ∧ Below w.heap.size w w':=by
 rw [← ruleT_eq]
 go_enter Tryz.func126,Tryz.ntmps126
 go_wp2_with (with_reducible refine wpList_store_row rfl 168 (.tmp 1) (.tmp 14) rfl (w.heap.size + 1) (ruleT0 Tryz.zeroCells168) ?c1 ?c2 168 Tryz.zeroCells168 ?c3 ?c4 ?c5 ?c6 ?_)
 case c1 => rfl
 case c2 => rfl
 case c3 => exact heap_alloc2_new w _ _
 case c4 => rw [ruleT0_size ruleZ_size]; exact infoRules
 case c5 => rw [ruleT0_size ruleZ_size]; exact ruleZ_size
 case c6 => exact ruleT0_one
 have hw0:((w.alloc (.cells Tryz.zeroCells168 168)).alloc (.cells Tryz.zeroCells168 168)).setRow (w.heap.size + 1) (ruleT0 Tryz.zeroCells168) = (w.alloc (.cells Tryz.zeroCells168 168)).alloc (.cells (ruleT1 Tryz.zeroCells168 0) 168):=by
  rw [← size_al w (.cells Tryz.zeroCells168 168),World.setRow_alloc_new]; rfl
 obtain ⟨W1,hW1⟩:∃ W1,W1 = w.alloc (.cells Tryz.zeroCells168 168):=⟨_,rfl⟩
 rw [← hW1] at hw0
 rw [← hW1]
 have hz1:W1.heap.size = w.heap.size + 1:=by rw [hW1]; exact size_al _ _
 rw [hw0]
 have HW1:=Lib.hid hW1
 have HZ1:=Lib.hid hz1
 clear hw0 hW1 hz1
 go_loopw [2] (fun c wr => ∃ k:Nat,k ≤ 10 ∧ c = .int .i32 (48 + k) ∧ Hid (wr = W1.alloc (.cells (ruleT1 Tryz.zeroCells168 k) 168))) (fun c _ => 58 - (intOf c).toNat)
 case atStart => exact ⟨0,by omega,rfl,rfl⟩
 case round =>
  obtain ⟨k,hk,rfl,HW⟩:=hrel
  by_cases hlt:k < 10
  ·have hs1:48 + k < (ruleT1 Tryz.zeroCells168 k).size:=by rw [ruleT1_size ruleZ_size]; omega
   have hc:wr.cell? ⟨w.heap.size + 1,48 + k,none⟩ = some (ruleT1 Tryz.zeroCells168 k)[48 + k]:=by
    rw [HW.out,cell_al_eq _ _ _ _ _ HZ1.out.symm,Array.getElem?_eq_getElem hs1]
   have hf:wr.frozen? ⟨w.heap.size + 1,48 + k,none⟩ = false:=by
    rw [HW.out]
    exact frozen_of_row _ _ _ (ruleT1 Tryz.zeroCells168 k) 168 (by rw [← HZ1.out]; exact heap_alloc_last W1 _)
   generalize (ruleT1 Tryz.zeroCells168 k)[48 + k] = u at hc
   clear hs1
   go_wp2_with fail
   refine ⟨⟨k + 1,by omega,by go_num,?_⟩,by simp [intOf]; omega⟩
   show _ = _
   rw [HW.out,set_al _ _ _ _ _ _ HZ1.out.symm]
   rfl
  ·obtain rfl:k = 10:=by omega
   clear hlt hk
   go_wp2_with fail
   go_loopw [3] (fun c wr => ∃ k:Nat,k ≤ 26 ∧ c = .int .i32 (97 + k) ∧ Hid (wr = W1.alloc (.cells (ruleT2 Tryz.zeroCells168 k) 168))) (fun c _ => 123 - (intOf c).toNat)
   case atStart => exact ⟨0,by omega,rfl,HW⟩
   case round =>
    obtain ⟨k,hk,rfl,HV⟩:=hrel
    by_cases hlt:k < 26
    ·have hs1:97 + k < (ruleT2 Tryz.zeroCells168 k).size:=by rw [ruleT2_size ruleZ_size]; omega
     have hc:wr.cell? ⟨w.heap.size + 1,97 + k,none⟩ = some (ruleT2 Tryz.zeroCells168 k)[97 + k]:=by
      rw [HV.out,cell_al_eq _ _ _ _ _ HZ1.out.symm,Array.getElem?_eq_getElem hs1]
     have hf:wr.frozen? ⟨w.heap.size + 1,97 + k,none⟩ = false:=by
      rw [HV.out]
      exact frozen_of_row _ _ _ (ruleT2 Tryz.zeroCells168 k) 168 (by rw [← HZ1.out]; exact heap_alloc_last W1 _)
     generalize (ruleT2 Tryz.zeroCells168 k)[97 + k] = u at hc
     clear hs1
     go_wp2_with fail
     refine ⟨⟨k + 1,by omega,by go_num,?_⟩,by simp [intOf]; omega⟩
     show _ = _
     rw [HV.out,set_al _ _ _ _ _ _ HZ1.out.symm]
     rfl
    ·obtain rfl:k = 26:=by omega
     clear hlt hk
     have hb1:wr.heap[w.heap.size + 1]? = some (.cells (ruleT2 Tryz.zeroCells168 26) 168 (0,0)):=by
      rw [HV.out,← HZ1.out]; exact heap_alloc_last W1 _
     have hb0:wr.heap[w.heap.size]? = some (.cells Tryz.zeroCells168 168 (0,0)):=by
      rw [HV.out,Lib.alloc_old _ _ _ (by rw [HZ1.out]; omega),HW1.out]; exact heap_alloc_last w _
     have HB1:=Lib.hid hb1
     have HB0:=Lib.hid hb0
     clear hb1 hb0
     go_wp2_with (first | (with_reducible refine wpList_load_row rfl 168 (.tmp 1) rfl (w.heap.size + 1) ?d1 168 (ruleT2 Tryz.zeroCells168 26) (0,0) _ HB1.out Tryz.underlying168 rfl ?d2 ?_) | (with_reducible refine wpList_store_row rfl 168 (.tmp 0) (.tmp 29) rfl w.heap.size (ruleT2 Tryz.zeroCells168 26) ?c1 ?c2 168 Tryz.zeroCells168 HB0.out ?c4 ?c5 ?c6 ?_))
     case d1 => rfl
     case d2 => rw [ruleT2_size ruleZ_size]; exact infoRules
     case c4 => rw [ruleT2_size ruleZ_size]; exact infoRules
     case c5 => rw [ruleT2_size ruleZ_size]; exact ruleZ_size
     case c6 => exact ruleT_one
     refine bodyPost_ret (v:=.agg (ruleT2 Tryz.zeroCells168 26)) (results_cell_row Tryz.results126 _ _ w.heap.size 168 _ (0,0) _ rfl (setRow_heap _ _ _ _ _ _ HB0.out) Tryz.underlying168 rfl (by rw [ruleT2_size ruleZ_size]; exact infoRules)) rfl ⟨rfl,bel_setRow ?_ _ (Nat.le_refl _)⟩
     rw [HV.out,HW1.out]
     exact bel_alloc (bel_alloc (Below.refl _ _) _) _
end
end

section
set_option maxRecDepth 100000
open Go.RowKit
theorem eql_rule_nil (w:World) (f:Fn) (x y:Array Value):(binOp .eql 151 (.func f x y) .nilFunc).run Tryz.prog w = .ok (.bool false) w:=by kernel_rfl
theorem eql_nil_rule (w:World):(binOp .eql 151 .nilFunc .nilFunc).run Tryz.prog w = .ok (.bool true) w:=by kernel_rfl
def RulesAt (w:World) (b:Nat):Prop:=w.heap[b]? = some (.cells ruleT 168 (0,0))
theorem RulesAt.lt {w:World} {b:Nat} (h:RulesAt w b):b < w.heap.size:=(Array.getElem?_eq_some_iff.1 h).1
theorem RulesAt.cell {w:World} {b:Nat} (h:RulesAt w b) {c:Nat} (hc:c < 256):w.cell? ⟨b,c,none⟩ = some (ruleV c):=by
 rw [cell_of_row w b c ruleT _ _ h,ruleT_get hc]
set_option maxHeartbeats 2000000 in
theorem token_end (s:ByteArray) (a b:Nat) (w:World) (ha:a = s.size) :
 Calls Tryz.prog 127 #[.pointer (some ⟨b,0,none⟩),.string s,.int .i64 a] w fun e w' => e = .returned (.tuple #[.agg #[.int .u8 11,.int .i64 a,.int .i64 a,.int .i64 0,.string ⟨#[]⟩],.int .i64 0]) ∧ Below w.heap.size w w':=by
 have h1:((a:Int) == (s.size:Int)) = true:=by rw [ha]; simp
 clear ha
 go_enter Tryz.func127,Tryz.ntmps127
 go_wp2_with fail
 exact bodyPost_ret (v:=.tuple #[.agg #[.int .u8 11,.int .i64 a,.int .i64 a,.int .i64 0,.string ⟨#[]⟩],.int .i64 0]) (by simp [results,Tryz.results127,go_sem]) rfl ⟨rfl,bel_alloc (Below.refl _ _) _⟩
set_option maxHeartbeats 2000000 in
theorem token_nil (s:ByteArray) (a b:Nat) (w:World) (ha:a < s.size) (hR:RulesAt w b) (hv:ruleV s[a].toNat = .nilFunc) :
 Calls Tryz.prog 127 #[.pointer (some ⟨b,0,none⟩),.string s,.int .i64 a] w fun e w' => e = .returned (.tuple #[.agg #[.int .u8 0,.int .i64 0,.int .i64 0,.int .i64 0,.string ⟨#[]⟩],.int .i64 3]) ∧ Below w.heap.size w w':=by
 have h1:((a:Int) == (s.size:Int)) = false:=beq_eq_false_iff_ne.2 (by omega)
 have hlt:=hR.lt
 have hsl:=u8_lt s[a]
 have hcell:=hR.cell hsl
 rw [hv] at hcell
 have g1:(s[a].toNat:Int) < 256:=by omega
 have g0:(0:Int) ≤ (s[a].toNat:Int):=by omega
 have g2:(0:Int) ≤ (a:Int):=by omega
 have g3:(a:Int) < (s.size:Int):=by omega
 have heq:=eql_nil_rule
 clear hR hv
 go_enter Tryz.func127,Tryz.ntmps127
 go_wp2_with fail
 go_quiet (fail)
 go_wp2_with fail
 exact bodyPost_ret (v:=.tuple #[.agg #[.int .u8 0,.int .i64 0,.int .i64 0,.int .i64 0,.string ⟨#[]⟩],.int .i64 3]) (by simp [results,Tryz.results127,go_sem]) rfl ⟨rfl,bel_set5 (bel_drewN (bel_alloc (Below.refl _ _) _) _) (Nat.le_refl _) _ _ _ _ _⟩
set_option maxHeartbeats 2000000 in
theorem token_open (s:ByteArray) (a b:Nat) (w:World) (ha:a < s.size) (hR:RulesAt w b) (hv:ruleV s[a].toNat = .func (.func 138) #[] #[]) (k x z n:Int) (t:ByteArray) (er:Int)
 (HC:Hid (∀ W,Below w.heap.size w W → Calls Tryz.prog 138 #[.string s,.int .i64 a] W fun e w' => e = .returned (.tuple #[.agg #[.int .u8 k,.int .i64 x,.int .i64 z,.int .i64 n,.string t],.int .i64 er]) ∧ Below W.heap.size W w')) :
 Calls Tryz.prog 127 #[.pointer (some ⟨b,0,none⟩),.string s,.int .i64 a] w fun e w' => e = .returned (.tuple #[.agg #[.int .u8 k,.int .i64 x,.int .i64 z,.int .i64 n,.string t],.int .i64 er]) ∧ Below w.heap.size w w':=by
 have h1:((a:Int) == (s.size:Int)) = false:=beq_eq_false_iff_ne.2 (by omega)
 have hlt:=hR.lt
 have hsl:=u8_lt s[a]
 have hcell:=hR.cell hsl
 rw [hv] at hcell
 have g1:(s[a].toNat:Int) < 256:=by omega
 have g0:(0:Int) ≤ (s[a].toNat:Int):=by omega
 have g2:(0:Int) ≤ (a:Int):=by omega
 have g3:(a:Int) < (s.size:Int):=by omega
 have heq:=eql_rule_nil
 clear hR hv
 go_enter Tryz.func127,Tryz.ntmps127
 go_wp2_with fail
 go_quiet (fail)
 go_wp2_with fail
 refine (HC.out _ ?_).mono ?_
 ·exact bel_drewN (bel_alloc (Below.refl _ _) _) _
 rintro e w2 ⟨rfl,hb2⟩
 have hsz:w.heap.size < w2.heap.size:=by have:=hb2.size; simp at this; omega
 obtain ⟨hc,hf⟩:=bcell hb2
 go_wp2_with fail
 exact bodyPost_ret (v:=.tuple #[.agg #[.int .u8 k,.int .i64 x,.int .i64 z,.int .i64 n,.string t],.int .i64 er]) (by simp [results,Tryz.results127,go_sem,hc]) rfl ⟨rfl,bel_set5 (below_more (bel_drewN (bel_alloc (Below.refl _ _) _) _) hb2) (Nat.le_refl _) _ _ _ _ _⟩
set_option maxHeartbeats 2000000 in
theorem token_shut (s:ByteArray) (a b:Nat) (w:World) (ha:a < s.size) (hR:RulesAt w b) (hv:ruleV s[a].toNat = .func (.func 139) #[] #[]) (k x z n:Int) (t:ByteArray) (er:Int)
 (HC:Hid (∀ W,Below w.heap.size w W → Calls Tryz.prog 139 #[.string s,.int .i64 a] W fun e w' => e = .returned (.tuple #[.agg #[.int .u8 k,.int .i64 x,.int .i64 z,.int .i64 n,.string t],.int .i64 er]) ∧ Below W.heap.size W w')) :
 Calls Tryz.prog 127 #[.pointer (some ⟨b,0,none⟩),.string s,.int .i64 a] w fun e w' => e = .returned (.tuple #[.agg #[.int .u8 k,.int .i64 x,.int .i64 z,.int .i64 n,.string t],.int .i64 er]) ∧ Below w.heap.size w w':=by
 have h1:((a:Int) == (s.size:Int)) = false:=beq_eq_false_iff_ne.2 (by omega)
 have hlt:=hR.lt
 have hsl:=u8_lt s[a]
 have hcell:=hR.cell hsl
 rw [hv] at hcell
 have g1:(s[a].toNat:Int) < 256:=by omega
 have g0:(0:Int) ≤ (s[a].toNat:Int):=by omega
 have g2:(0:Int) ≤ (a:Int):=by omega
 have g3:(a:Int) < (s.size:Int):=by omega
 have heq:=eql_rule_nil
 clear hR hv
 go_enter Tryz.func127,Tryz.ntmps127
 go_wp2_with fail
 go_quiet (fail)
 go_wp2_with fail
 refine (HC.out _ ?_).mono ?_
 ·exact bel_drewN (bel_alloc (Below.refl _ _) _) _
 rintro e w2 ⟨rfl,hb2⟩
 have hsz:w.heap.size < w2.heap.size:=by have:=hb2.size; simp at this; omega
 obtain ⟨hc,hf⟩:=bcell hb2
 go_wp2_with fail
 exact bodyPost_ret (v:=.tuple #[.agg #[.int .u8 k,.int .i64 x,.int .i64 z,.int .i64 n,.string t],.int .i64 er]) (by simp [results,Tryz.results127,go_sem,hc]) rfl ⟨rfl,bel_set5 (below_more (bel_drewN (bel_alloc (Below.refl _ _) _) _) hb2) (Nat.le_refl _) _ _ _ _ _⟩
set_option maxHeartbeats 2000000 in
theorem token_first (s:ByteArray) (a b:Nat) (w:World) (ha:a < s.size) (hR:RulesAt w b) (hv:ruleV s[a].toNat = .func (.func 140) #[] #[]) (k x z n:Int) (t:ByteArray) (er:Int)
 (HC:Hid (∀ W,Below w.heap.size w W → Calls Tryz.prog 140 #[.string s,.int .i64 a] W fun e w' => e = .returned (.tuple #[.agg #[.int .u8 k,.int .i64 x,.int .i64 z,.int .i64 n,.string t],.int .i64 er]) ∧ Below W.heap.size W w')) :
 Calls Tryz.prog 127 #[.pointer (some ⟨b,0,none⟩),.string s,.int .i64 a] w fun e w' => e = .returned (.tuple #[.agg #[.int .u8 k,.int .i64 x,.int .i64 z,.int .i64 n,.string t],.int .i64 er]) ∧ Below w.heap.size w w':=by
 have h1:((a:Int) == (s.size:Int)) = false:=beq_eq_false_iff_ne.2 (by omega)
 have hlt:=hR.lt
 have hsl:=u8_lt s[a]
 have hcell:=hR.cell hsl
 rw [hv] at hcell
 have g1:(s[a].toNat:Int) < 256:=by omega
 have g0:(0:Int) ≤ (s[a].toNat:Int):=by omega
 have g2:(0:Int) ≤ (a:Int):=by omega
 have g3:(a:Int) < (s.size:Int):=by omega
 have heq:=eql_rule_nil
 clear hR hv
 go_enter Tryz.func127,Tryz.ntmps127
 go_wp2_with fail
 go_quiet (fail)
 go_wp2_with fail
 refine (HC.out _ ?_).mono ?_
 ·exact bel_drewN (bel_alloc (Below.refl _ _) _) _
 rintro e w2 ⟨rfl,hb2⟩
 have hsz:w.heap.size < w2.heap.size:=by have:=hb2.size; simp at this; omega
 obtain ⟨hc,hf⟩:=bcell hb2
 go_wp2_with fail
 exact bodyPost_ret (v:=.tuple #[.agg #[.int .u8 k,.int .i64 x,.int .i64 z,.int .i64 n,.string t],.int .i64 er]) (by simp [results,Tryz.results127,go_sem,hc]) rfl ⟨rfl,bel_set5 (below_more (bel_drewN (bel_alloc (Below.refl _ _) _) _) hb2) (Nat.le_refl _) _ _ _ _ _⟩
set_option maxHeartbeats 2000000 in
theorem token_last (s:ByteArray) (a b:Nat) (w:World) (ha:a < s.size) (hR:RulesAt w b) (hv:ruleV s[a].toNat = .func (.func 141) #[] #[]) (k x z n:Int) (t:ByteArray) (er:Int)
 (HC:Hid (∀ W,Below w.heap.size w W → Calls Tryz.prog 141 #[.string s,.int .i64 a] W fun e w' => e = .returned (.tuple #[.agg #[.int .u8 k,.int .i64 x,.int .i64 z,.int .i64 n,.string t],.int .i64 er]) ∧ Below W.heap.size W w')) :
 Calls Tryz.prog 127 #[.pointer (some ⟨b,0,none⟩),.string s,.int .i64 a] w fun e w' => e = .returned (.tuple #[.agg #[.int .u8 k,.int .i64 x,.int .i64 z,.int .i64 n,.string t],.int .i64 er]) ∧ Below w.heap.size w w':=by
 have h1:((a:Int) == (s.size:Int)) = false:=beq_eq_false_iff_ne.2 (by omega)
 have hlt:=hR.lt
 have hsl:=u8_lt s[a]
 have hcell:=hR.cell hsl
 rw [hv] at hcell
 have g1:(s[a].toNat:Int) < 256:=by omega
 have g0:(0:Int) ≤ (s[a].toNat:Int):=by omega
 have g2:(0:Int) ≤ (a:Int):=by omega
 have g3:(a:Int) < (s.size:Int):=by omega
 have heq:=eql_rule_nil
 clear hR hv
 go_enter Tryz.func127,Tryz.ntmps127
 go_wp2_with fail
 go_quiet (fail)
 go_wp2_with fail
 refine (HC.out _ ?_).mono ?_
 ·exact bel_drewN (bel_alloc (Below.refl _ _) _) _
 rintro e w2 ⟨rfl,hb2⟩
 have hsz:w.heap.size < w2.heap.size:=by have:=hb2.size; simp at this; omega
 obtain ⟨hc,hf⟩:=bcell hb2
 go_wp2_with fail
 exact bodyPost_ret (v:=.tuple #[.agg #[.int .u8 k,.int .i64 x,.int .i64 z,.int .i64 n,.string t],.int .i64 er]) (by simp [results,Tryz.results127,go_sem,hc]) rfl ⟨rfl,bel_set5 (below_more (bel_drewN (bel_alloc (Below.refl _ _) _) _) hb2) (Nat.le_refl _) _ _ _ _ _⟩
set_option maxHeartbeats 2000000 in
theorem token_comma (s:ByteArray) (a b:Nat) (w:World) (ha:a < s.size) (hR:RulesAt w b) (hv:ruleV s[a].toNat = .func (.func 142) #[] #[]) (k x z n:Int) (t:ByteArray) (er:Int)
 (HC:Hid (∀ W,Below w.heap.size w W → Calls Tryz.prog 142 #[.string s,.int .i64 a] W fun e w' => e = .returned (.tuple #[.agg #[.int .u8 k,.int .i64 x,.int .i64 z,.int .i64 n,.string t],.int .i64 er]) ∧ Below W.heap.size W w')) :
 Calls Tryz.prog 127 #[.pointer (some ⟨b,0,none⟩),.string s,.int .i64 a] w fun e w' => e = .returned (.tuple #[.agg #[.int .u8 k,.int .i64 x,.int .i64 z,.int .i64 n,.string t],.int .i64 er]) ∧ Below w.heap.size w w':=by
 have h1:((a:Int) == (s.size:Int)) = false:=beq_eq_false_iff_ne.2 (by omega)
 have hlt:=hR.lt
 have hsl:=u8_lt s[a]
 have hcell:=hR.cell hsl
 rw [hv] at hcell
 have g1:(s[a].toNat:Int) < 256:=by omega
 have g0:(0:Int) ≤ (s[a].toNat:Int):=by omega
 have g2:(0:Int) ≤ (a:Int):=by omega
 have g3:(a:Int) < (s.size:Int):=by omega
 have heq:=eql_rule_nil
 clear hR hv
 go_enter Tryz.func127,Tryz.ntmps127
 go_wp2_with fail
 go_quiet (fail)
 go_wp2_with fail
 refine (HC.out _ ?_).mono ?_
 ·exact bel_drewN (bel_alloc (Below.refl _ _) _) _
 rintro e w2 ⟨rfl,hb2⟩
 have hsz:w.heap.size < w2.heap.size:=by have:=hb2.size; simp at this; omega
 obtain ⟨hc,hf⟩:=bcell hb2
 go_wp2_with fail
 exact bodyPost_ret (v:=.tuple #[.agg #[.int .u8 k,.int .i64 x,.int .i64 z,.int .i64 n,.string t],.int .i64 er]) (by simp [results,Tryz.results127,go_sem,hc]) rfl ⟨rfl,bel_set5 (below_more (bel_drewN (bel_alloc (Below.refl _ _) _) _) hb2) (Nat.le_refl _) _ _ _ _ _⟩
set_option maxHeartbeats 2000000 in
theorem token_colon (s:ByteArray) (a b:Nat) (w:World) (ha:a < s.size) (hR:RulesAt w b) (hv:ruleV s[a].toNat = .func (.func 143) #[] #[]) (k x z n:Int) (t:ByteArray) (er:Int)
 (HC:Hid (∀ W,Below w.heap.size w W → Calls Tryz.prog 143 #[.string s,.int .i64 a] W fun e w' => e = .returned (.tuple #[.agg #[.int .u8 k,.int .i64 x,.int .i64 z,.int .i64 n,.string t],.int .i64 er]) ∧ Below W.heap.size W w')) :
 Calls Tryz.prog 127 #[.pointer (some ⟨b,0,none⟩),.string s,.int .i64 a] w fun e w' => e = .returned (.tuple #[.agg #[.int .u8 k,.int .i64 x,.int .i64 z,.int .i64 n,.string t],.int .i64 er]) ∧ Below w.heap.size w w':=by
 have h1:((a:Int) == (s.size:Int)) = false:=beq_eq_false_iff_ne.2 (by omega)
 have hlt:=hR.lt
 have hsl:=u8_lt s[a]
 have hcell:=hR.cell hsl
 rw [hv] at hcell
 have g1:(s[a].toNat:Int) < 256:=by omega
 have g0:(0:Int) ≤ (s[a].toNat:Int):=by omega
 have g2:(0:Int) ≤ (a:Int):=by omega
 have g3:(a:Int) < (s.size:Int):=by omega
 have heq:=eql_rule_nil
 clear hR hv
 go_enter Tryz.func127,Tryz.ntmps127
 go_wp2_with fail
 go_quiet (fail)
 go_wp2_with fail
 refine (HC.out _ ?_).mono ?_
 ·exact bel_drewN (bel_alloc (Below.refl _ _) _) _
 rintro e w2 ⟨rfl,hb2⟩
 have hsz:w.heap.size < w2.heap.size:=by have:=hb2.size; simp at this; omega
 obtain ⟨hc,hf⟩:=bcell hb2
 go_wp2_with fail
 exact bodyPost_ret (v:=.tuple #[.agg #[.int .u8 k,.int .i64 x,.int .i64 z,.int .i64 n,.string t],.int .i64 er]) (by simp [results,Tryz.results127,go_sem,hc]) rfl ⟨rfl,bel_set5 (below_more (bel_drewN (bel_alloc (Below.refl _ _) _) _) hb2) (Nat.le_refl _) _ _ _ _ _⟩
set_option maxHeartbeats 2000000 in
theorem token_number (s:ByteArray) (a b:Nat) (w:World) (ha:a < s.size) (hR:RulesAt w b) (hv:ruleV s[a].toNat = .func (.func 144) #[] #[]) (k x z n:Int) (t:ByteArray) (er:Int)
 (HC:Hid (∀ W,Below w.heap.size w W → Calls Tryz.prog 144 #[.string s,.int .i64 a] W fun e w' => e = .returned (.tuple #[.agg #[.int .u8 k,.int .i64 x,.int .i64 z,.int .i64 n,.string t],.int .i64 er]) ∧ Below W.heap.size W w')) :
 Calls Tryz.prog 127 #[.pointer (some ⟨b,0,none⟩),.string s,.int .i64 a] w fun e w' => e = .returned (.tuple #[.agg #[.int .u8 k,.int .i64 x,.int .i64 z,.int .i64 n,.string t],.int .i64 er]) ∧ Below w.heap.size w w':=by
 have h1:((a:Int) == (s.size:Int)) = false:=beq_eq_false_iff_ne.2 (by omega)
 have hlt:=hR.lt
 have hsl:=u8_lt s[a]
 have hcell:=hR.cell hsl
 rw [hv] at hcell
 have g1:(s[a].toNat:Int) < 256:=by omega
 have g0:(0:Int) ≤ (s[a].toNat:Int):=by omega
 have g2:(0:Int) ≤ (a:Int):=by omega
 have g3:(a:Int) < (s.size:Int):=by omega
 have heq:=eql_rule_nil
 clear hR hv
 go_enter Tryz.func127,Tryz.ntmps127
 go_wp2_with fail
 go_quiet (fail)
 go_wp2_with fail
 refine (HC.out _ ?_).mono ?_
 ·exact bel_drewN (bel_alloc (Below.refl _ _) _) _
 rintro e w2 ⟨rfl,hb2⟩
 have hsz:w.heap.size < w2.heap.size:=by have:=hb2.size; simp at this; omega
 obtain ⟨hc,hf⟩:=bcell hb2
 go_wp2_with fail
 exact bodyPost_ret (v:=.tuple #[.agg #[.int .u8 k,.int .i64 x,.int .i64 z,.int .i64 n,.string t],.int .i64 er]) (by simp [results,Tryz.results127,go_sem,hc]) rfl ⟨rfl,bel_set5 (below_more (bel_drewN (bel_alloc (Below.refl _ _) _) _) hb2) (Nat.le_refl _) _ _ _ _ _⟩
set_option maxHeartbeats 2000000 in
theorem token_text (s:ByteArray) (a b:Nat) (w:World) (ha:a < s.size) (hR:RulesAt w b) (hv:ruleV s[a].toNat = .func (.func 145) #[] #[]) (k x z n:Int) (t:ByteArray) (er:Int)
 (HC:Hid (∀ W,Below w.heap.size w W → Calls Tryz.prog 145 #[.string s,.int .i64 a] W fun e w' => e = .returned (.tuple #[.agg #[.int .u8 k,.int .i64 x,.int .i64 z,.int .i64 n,.string t],.int .i64 er]) ∧ Below W.heap.size W w')) :
 Calls Tryz.prog 127 #[.pointer (some ⟨b,0,none⟩),.string s,.int .i64 a] w fun e w' => e = .returned (.tuple #[.agg #[.int .u8 k,.int .i64 x,.int .i64 z,.int .i64 n,.string t],.int .i64 er]) ∧ Below w.heap.size w w':=by
 have h1:((a:Int) == (s.size:Int)) = false:=beq_eq_false_iff_ne.2 (by omega)
 have hlt:=hR.lt
 have hsl:=u8_lt s[a]
 have hcell:=hR.cell hsl
 rw [hv] at hcell
 have g1:(s[a].toNat:Int) < 256:=by omega
 have g0:(0:Int) ≤ (s[a].toNat:Int):=by omega
 have g2:(0:Int) ≤ (a:Int):=by omega
 have g3:(a:Int) < (s.size:Int):=by omega
 have heq:=eql_rule_nil
 clear hR hv
 go_enter Tryz.func127,Tryz.ntmps127
 go_wp2_with fail
 go_quiet (fail)
 go_wp2_with fail
 refine (HC.out _ ?_).mono ?_
 ·exact bel_drewN (bel_alloc (Below.refl _ _) _) _
 rintro e w2 ⟨rfl,hb2⟩
 have hsz:w.heap.size < w2.heap.size:=by have:=hb2.size; simp at this; omega
 obtain ⟨hc,hf⟩:=bcell hb2
 go_wp2_with fail
 exact bodyPost_ret (v:=.tuple #[.agg #[.int .u8 k,.int .i64 x,.int .i64 z,.int .i64 n,.string t],.int .i64 er]) (by simp [results,Tryz.results127,go_sem,hc]) rfl ⟨rfl,bel_set5 (below_more (bel_drewN (bel_alloc (Below.refl _ _) _) _) hb2) (Nat.le_refl _) _ _ _ _ _⟩
set_option maxHeartbeats 2000000 in
theorem token_word (s:ByteArray) (a b:Nat) (w:World) (ha:a < s.size) (hR:RulesAt w b) (hv:ruleV s[a].toNat = .func (.func 146) #[] #[]) (k x z n:Int) (t:ByteArray) (er:Int)
 (HC:Hid (∀ W,Below w.heap.size w W → Calls Tryz.prog 146 #[.string s,.int .i64 a] W fun e w' => e = .returned (.tuple #[.agg #[.int .u8 k,.int .i64 x,.int .i64 z,.int .i64 n,.string t],.int .i64 er]) ∧ Below W.heap.size W w')) :
 Calls Tryz.prog 127 #[.pointer (some ⟨b,0,none⟩),.string s,.int .i64 a] w fun e w' => e = .returned (.tuple #[.agg #[.int .u8 k,.int .i64 x,.int .i64 z,.int .i64 n,.string t],.int .i64 er]) ∧ Below w.heap.size w w':=by
 have h1:((a:Int) == (s.size:Int)) = false:=beq_eq_false_iff_ne.2 (by omega)
 have hlt:=hR.lt
 have hsl:=u8_lt s[a]
 have hcell:=hR.cell hsl
 rw [hv] at hcell
 have g1:(s[a].toNat:Int) < 256:=by omega
 have g0:(0:Int) ≤ (s[a].toNat:Int):=by omega
 have g2:(0:Int) ≤ (a:Int):=by omega
 have g3:(a:Int) < (s.size:Int):=by omega
 have heq:=eql_rule_nil
 clear hR hv
 go_enter Tryz.func127,Tryz.ntmps127
 go_wp2_with fail
 go_quiet (fail)
 go_wp2_with fail
 refine (HC.out _ ?_).mono ?_
 ·exact bel_drewN (bel_alloc (Below.refl _ _) _) _
 rintro e w2 ⟨rfl,hb2⟩
 have hsz:w.heap.size < w2.heap.size:=by have:=hb2.size; simp at this; omega
 obtain ⟨hc,hf⟩:=bcell hb2
 go_wp2_with fail
 exact bodyPost_ret (v:=.tuple #[.agg #[.int .u8 k,.int .i64 x,.int .i64 z,.int .i64 n,.string t],.int .i64 er]) (by simp [results,Tryz.results127,go_sem,hc]) rfl ⟨rfl,bel_set5 (below_more (bel_drewN (bel_alloc (Below.refl _ _) _) _) hb2) (Nat.le_refl _) _ _ _ _ _⟩
theorem signV {c:UInt8} {n:Nat} (h:c.toNat = n):signOf c = if n = 123 then 1 else if n = 125 then 2 else if n = 91 then 3 else if n = 93 then 4 else if n = 44 then 5 else if n = 58 then 6 else 0:=by unfold signOf; rw [h]
theorem signV_no {c:UInt8} (h:c.toNat ≠ 123 ∧ c.toNat ≠ 125 ∧ c.toNat ≠ 91 ∧ c.toNat ≠ 93 ∧ c.toNat ≠ 44 ∧ c.toNat ≠ 58):signOf c = 0:=by
 unfold signOf
 rw [if_neg h.1,if_neg h.2.1,if_neg h.2.2.1,if_neg h.2.2.2.1,if_neg h.2.2.2.2.1,if_neg h.2.2.2.2.2]
theorem numFirst_iff (c:UInt8):numFirst c = true ↔ (48 ≤ c.toNat ∧ c.toNat ≤ 57) ∨ c.toNat = 45 ∨ c.toNat = 43 ∨ c.toNat = 46:=by
 simp [numFirst,Nm.dg,or_assoc]
theorem token_any (s:ByteArray) (a b:Nat) (w:World) (hs:s.size ≤ 281474976710656) (ha:a ≤ s.size) (henv:NumEnv w) (hR:RulesAt w b) (k x z n:Int) (t:ByteArray) (er:Int) (hr:Hid (resV (tokR a (tokP (s.data.toList.drop a))) = (k,x,z,n,t,er))) :
 Calls Tryz.prog 127 #[.pointer (some ⟨b,0,none⟩),.string s,.int .i64 a] w fun e w' => e = .returned (.tuple #[.agg #[.int .u8 k,.int .i64 x,.int .i64 z,.int .i64 n,.string t],.int .i64 er]) ∧ Below w.heap.size w w':=by
 have h:=hr.out
 by_cases hlt:a < s.size
 ·rw [drop_at hlt,tokP] at h
  have hsign:∀ (m:Nat),s[a].toNat = m → ∀ K:Int,K ≠ 0 → signOf s[a] = K → k = K ∧ x = (a:Int) ∧ z = (a:Int) + 1 ∧ n = 0 ∧ t = ⟨#[]⟩ ∧ er = 0:=by
   intro m hm K hK hs
   rw [if_pos (by rw [hs]; exact hK),hs] at h
   exact resV_ok h
  by_cases c1:s[a].toNat = 123
  ·obtain ⟨rfl,rfl,rfl,rfl,rfl,rfl⟩:=hsign _ c1 1 (by decide) (signV c1)
   exact token_open s a b w hlt hR (by rw [c1]; rfl) _ _ _ _ _ _ (fun W _ => sign_open s a W (by omega))
  by_cases c2:s[a].toNat = 125
  ·obtain ⟨rfl,rfl,rfl,rfl,rfl,rfl⟩:=hsign _ c2 2 (by decide) (signV c2)
   exact token_shut s a b w hlt hR (by rw [c2]; rfl) _ _ _ _ _ _ (fun W _ => sign_shut s a W (by omega))
  by_cases c3:s[a].toNat = 91
  ·obtain ⟨rfl,rfl,rfl,rfl,rfl,rfl⟩:=hsign _ c3 3 (by decide) (signV c3)
   exact token_first s a b w hlt hR (by rw [c3]; rfl) _ _ _ _ _ _ (fun W _ => sign_first s a W (by omega))
  by_cases c4:s[a].toNat = 93
  ·obtain ⟨rfl,rfl,rfl,rfl,rfl,rfl⟩:=hsign _ c4 4 (by decide) (signV c4)
   exact token_last s a b w hlt hR (by rw [c4]; rfl) _ _ _ _ _ _ (fun W _ => sign_last s a W (by omega))
  by_cases c5:s[a].toNat = 44
  ·obtain ⟨rfl,rfl,rfl,rfl,rfl,rfl⟩:=hsign _ c5 5 (by decide) (signV c5)
   exact token_comma s a b w hlt hR (by rw [c5]; rfl) _ _ _ _ _ _ (fun W _ => sign_comma s a W (by omega))
  by_cases c6:s[a].toNat = 58
  ·obtain ⟨rfl,rfl,rfl,rfl,rfl,rfl⟩:=hsign _ c6 6 (by decide) (signV c6)
   exact token_colon s a b w hlt hR (by rw [c6]; rfl) _ _ _ _ _ _ (fun W _ => sign_colon s a W (by omega))
  have h0:=signV_no (c:=s[a]) ⟨c1,c2,c3,c4,c5,c6⟩
  rw [if_neg (by simp [h0])] at h
  by_cases c7:s[a].toNat = 34
  ·rw [if_pos c7] at h
   exact token_text s a b w hlt hR (by rw [c7]; rfl) _ _ _ _ _ _ (fun W _ => text_lex s a W hs hlt c7 _ _ _ _ _ _ h)
  rw [if_neg c7] at h
  by_cases c8:(48 ≤ s[a].toNat ∧ s[a].toNat ≤ 57) ∨ s[a].toNat = 45 ∨ s[a].toNat = 43 ∨ s[a].toNat = 46
  ·rw [if_pos ((numFirst_iff _).2 c8),← drop_at hlt] at h
   refine token_number s a b w hlt hR ?_ _ _ _ _ _ _ (fun W hW => number_any s a W hs ha (henv.below hW) _ _ _ _ _ _ h)
   unfold ruleV
   rw [if_neg c1,if_neg c2,if_neg c3,if_neg c4,if_neg c5,if_neg c6,if_neg c7,if_pos c8]
  rw [if_neg (fun hh => c8 ((numFirst_iff _).1 hh)),← drop_at hlt] at h
  by_cases c9:97 ≤ s[a].toNat ∧ s[a].toNat ≤ 122
  ·refine token_word s a b w hlt hR ?_ _ _ _ _ _ _ (fun W _ => word_any s a W hs ha _ _ _ _ _ _ h)
   unfold ruleV
   rw [if_neg c1,if_neg c2,if_neg c3,if_neg c4,if_neg c5,if_neg c6,if_neg c7,if_neg c8,if_pos c9]
  ·have hw:(s.data.toList.drop a).takeWhile isLow = []:=by
    rw [drop_at hlt,List.takeWhile_cons,if_neg]
    simp [isLow]
    omega
   unfold wordP at h
   rw [hw,if_neg (by simp),if_neg (by simp)] at h
   obtain ⟨rfl,rfl,rfl,rfl,rfl,rfl⟩:=resV_bad (by decide) h
   refine token_nil s a b w hlt hR ?_
   unfold ruleV
   rw [if_neg c1,if_neg c2,if_neg c3,if_neg c4,if_neg c5,if_neg c6,if_neg c7,if_neg c8,if_neg c9]
 ·have hae:a = s.size:=by omega
  rw [drop_none (by omega),tokP_nil] at h
  obtain ⟨rfl,rfl,rfl,rfl,rfl,rfl⟩:=resV_ok h
  have:=token_end s a b w hae
  simpa using this
end

section
set_option maxRecDepth 100000
open Go.RowKit
theorem grown_of {w w':World} (hb:Below w.heap.size w w') (row:Option Nat):w.grownBy w' row:=⟨hb.os,hb.tape,hb.output,hb.size,fun k hk _ => hb.block k hk⟩
theorem ownsRow_keep {w w':World} {B:Nat} {e:TypeId} {size:Nat} {v:Value} {n:Nat} {xs:List Value} (h:w.ownsRow B e size v n xs) (hb:Below w.heap.size w w'):w'.ownsRow B e size v n xs:=by
 cases hv:v.ownBlock with
 | none => exact h.kept (grown_of hb none) (Or.inl hv)
 | some g => exact h.kept (grown_of hb none) (Or.inr (by rw [hv]; simp))
theorem nextM_eq (l:List UInt8) (p:Nat):nextM l p = tokR (p + blanks (l.drop p)) (tokP (l.drop (p + blanks (l.drop p)))):=by
 unfold nextM tokR tokB
 rw [List.drop_drop]
set_option maxHeartbeats 2000000 in
theorem lexNext_in (s:ByteArray) (a:Nat) (w:World) (hs:s.size ≤ 281474976710656) (ha:a ≤ s.size) (henv:NumEnv w) (k x z n:Int) (t:ByteArray) (er:Int) (hr:Hid (resV (nextM s.data.toList a) = (k,x,z,n,t,er))) :
 Calls Tryz.prog 109 #[.string s,.int .i64 a] w fun e w' => e = .returned (.tuple #[.agg #[.int .u8 k,.int .i64 x,.int .i64 z,.int .i64 n,.string t],.int .i64 er]) ∧ Below w.heap.size w w':=by
 obtain ⟨q,hq⟩:∃ q,a + blanks (s.data.toList.drop a) = q:=⟨_,rfl⟩
 have hqs:q ≤ s.size:=by have:=blanks_le (s.data.toList.drop a); rw [List.length_drop,size_len] at this; omega
 have h:=hr.out
 rw [nextM_eq,hq] at h
 have HS:=Lib.hid (fun W => skip_any s a W hs ha q hq)
 have HT:=Lib.hid (fun W b hE hR => token_any s q b W hs hqs hE hR k x z n t er h)
 have hng:decide ((a:Int) < 0) = false:=by simp
 have hlt:¬ (s.size:Int) < (a:Int):=by omega
 clear h hr hq
 go_enter Tryz.func109,Tryz.ntmps109
 go_wp2_with fail
 refine (rules_any _).mono ?_
 rintro e w1 ⟨rfl,hb1⟩
 have hsz1:w.heap.size < w1.heap.size:=by have:=hb1.size; simp at this; omega
 have hw1:Below w.heap.size w w1:=below_more (bel_alloc (Below.refl _ _) _) hb1
 go_wp2_with (with_reducible refine wpList_store_row rfl 168 (.tmp 6) (.tmp 16) rfl w1.heap.size ruleT ?c1 ?c2 168 Tryz.zeroCells168 ?c3 ?c4 ?c5 ?c6 ?_)
 case c1 => rfl
 case c2 => rfl
 case c3 => exact heap_alloc_last w1 _
 case c4 => rw [ruleT_size]; exact infoRules
 case c5 => rw [ruleT_size]; exact ruleZ_size
 case c6 => exact ruleT_one'
 rw [World.setRow_alloc_new]
 have hR2:RulesAt (w1.alloc (.cells ruleT 168)) w1.heap.size:=heap_alloc_last w1 _
 have hw2:Below w.heap.size w (w1.alloc (.cells ruleT 168)):=bel_alloc hw1 _
 have hE2:=henv.below hw2
 obtain ⟨hc1,hf1⟩:=bcell hb1
 clear hw1 hb1
 go_wp2_with fail
 refine (HS.out _).mono ?_
 rintro e w3 ⟨rfl,rfl⟩
 go_wp2_with fail
 refine (HT.out _ _ hE2 hR2).mono ?_
 rintro e w3 ⟨rfl,hb3⟩
 have hsz3:w.heap.size < w3.heap.size:=by have:=hb3.size; rw [size_al] at this; omega
 obtain ⟨hc3,hf3⟩:=bcell hb3
 have d0:w3.cell? ⟨w.heap.size,0,none⟩ = some (.int .u8 0):=by
  rw [hc3 _ _ (by rw [size_al]; omega),cell_al_lt _ _ _ _ hsz1,hc1 _ _ (by rw [size_al]; omega),cell_al_eq _ _ _ _ _ rfl]; rfl
 have d1:w3.cell? ⟨w.heap.size,1,none⟩ = some (.int .i64 0):=by
  rw [hc3 _ _ (by rw [size_al]; omega),cell_al_lt _ _ _ _ hsz1,hc1 _ _ (by rw [size_al]; omega),cell_al_eq _ _ _ _ _ rfl]; rfl
 have d2:w3.cell? ⟨w.heap.size,2,none⟩ = some (.int .i64 0):=by
  rw [hc3 _ _ (by rw [size_al]; omega),cell_al_lt _ _ _ _ hsz1,hc1 _ _ (by rw [size_al]; omega),cell_al_eq _ _ _ _ _ rfl]; rfl
 have d3:w3.cell? ⟨w.heap.size,3,none⟩ = some (.int .i64 0):=by
  rw [hc3 _ _ (by rw [size_al]; omega),cell_al_lt _ _ _ _ hsz1,hc1 _ _ (by rw [size_al]; omega),cell_al_eq _ _ _ _ _ rfl]; rfl
 have d4:w3.cell? ⟨w.heap.size,4,none⟩ = some (.string ⟨#[]⟩):=by
  rw [hc3 _ _ (by rw [size_al]; omega),cell_al_lt _ _ _ _ hsz1,hc1 _ _ (by rw [size_al]; omega),cell_al_eq _ _ _ _ _ rfl]; rfl
 go_wp2_with fail
 exact bodyPost_ret (v:=.tuple #[.agg #[.int .u8 k,.int .i64 x,.int .i64 z,.int .i64 n,.string t],.int .i64 er]) (by simp [results,Tryz.results109,go_sem,d0,d1,d2,d3,d4]) rfl ⟨rfl,bel_set5 (below_more hw2 hb3) (Nat.le_refl _) _ _ _ _ _⟩
/-! All. -/
theorem own_ne {w:World} {B:Nat} {e:TypeId} {size:Nat} {v:Value} {n:Nat} {xs:List Value} (h:w.ownsRow B e size v n xs) {b:Nat} {cs:Array Value} {t:TypeId} {fr:Nat × Nat} (hb:w.heap[b]? = some (.cells cs t fr)) (hne:t ≠ e):some b ≠ v.ownBlock:=by
 intro hv
 rcases h.2 with ⟨rfl,_⟩ | ⟨g,cap,cur,rfl,_,hg,_⟩
 ·cases hv
 ·have:b = g:=by simpa [Value.ownBlock] using hv
  subst this
  rw [hb] at hg
  cases hg
  exact hne rfl
end

section
open Go.RowKit
/-! What reads as cells in one world reads so in another one that has these cells. -/
theorem StrsAt.imp {w w':World} (hc:∀ p v,w.cell? p = some v → w'.cell? p = some v) {v:Value} {l:List ByteArray} (h:StrsAt w v l):StrsAt w' v l:=by
 obtain ⟨h1,h2,h3⟩:=h
 refine ⟨h1,h2,?_⟩
 rcases h3 with h3 | ⟨b,o,cap,hv,hh⟩
 ·exact Or.inl h3
 ·exact Or.inr ⟨b,o,cap,hv,fun i s hs => hc _ _ (hh i s hs)⟩
mutual
theorem ValAt.imp {w w':World} (hc:∀ p v,w.cell? p = some v → w'.cell? p = some v):∀ {V:JV} {v:Value},ValAt w V v → ValAt w' V v
 | .mk k n t names items,v,h => by
   rw [ValAt] at h ⊢
   obtain ⟨vn,vi,hv,k0,k1,n0,n1,ht,hn,hl,hi⟩:=h
   refine ⟨vn,vi,hv,k0,k1,n0,n1,ht,hn.imp hc,hl,?_⟩
   rcases hi with hi | ⟨b,o,cap,hv,hr⟩
   ·exact Or.inl hi
   ·exact Or.inr ⟨b,o,cap,hv,RowAt.imp hc hr⟩
theorem RowAt.imp {w w':World} (hc:∀ p v,w.cell? p = some v → w'.cell? p = some v) {b:Nat}:∀ {items:List JV} {o:Nat},RowAt w b o items → RowAt w' b o items
 | [],_,_ => by rw [RowAt]; trivial
 | x :: r,o,h => by
   rw [RowAt] at h ⊢
   obtain ⟨⟨c0,c1,c2,c3,c4,h0,h1,h2,h3,h4,h5⟩,hr⟩:=h
   exact ⟨⟨c0,c1,c2,c3,c4,hc _ _ h0,hc _ _ h1,hc _ _ h2,hc _ _ h3,hc _ _ h4,ValAt.imp hc h5⟩,RowAt.imp hc hr⟩
end
def Obj.clean (o:Obj):Bool:=match o with
 | .cells _ _ (0,0) => true
 | _ => false
theorem Obj.clean_iff {o:Obj} (h:Obj.clean o = true):∃ cs t,o = .cells cs t (0,0):=by
 unfold Obj.clean at h
 split at h
 ·exact ⟨_,_,rfl⟩
 ·exact absurd h (by simp)
def hidden (P:Nat → Bool) (w:World):World:={ w with heap:=w.heap.mapIdx fun i o => if P i = true ∨ Obj.clean o = false then .cells #[] 0 else o }
theorem hidden_cell (P:Nat → Bool) (w:World) (p:Addr) (v:Value):(hidden P w).cell? p = some v ↔ P p.block = false ∧ (∃ cs t,w.heap[p.block]? = some (.cells cs t (0,0))) ∧ w.cell? p = some v:=by
 unfold World.cell? hidden
 simp only [Array.getElem?_mapIdx]
 cases h:w.heap[p.block]? with
 | none => simp
 | some o =>
   simp only [Option.map_some]
   by_cases hp:P p.block = true
   ·rw [if_pos (Or.inl hp)]; simp [hp]
   ·have hp':P p.block = false:=by simpa using hp
    by_cases hc:Obj.clean o = true
    ·obtain ⟨cs,t,rfl⟩:=Obj.clean_iff hc
     rw [if_neg (by simp [hp',hc])]
     simp [hp']
    ·rw [if_pos (Or.inr (by simpa using hc))]
     have hno:¬ ∃ cs t,some o = some (Obj.cells cs t (0,0)):=by
      rintro ⟨cs,t,e⟩
      cases e
      exact hc rfl
     simp only [Array.getElem?_empty,ite_self,reduceCtorEq,false_iff]
     rintro ⟨-,h2,-⟩
     exact hno h2
theorem ValAt.carry {P Q:Nat → Bool} {w w':World} {V:JV} {v:Value} (h:ValAt (hidden P w) V v) (hk:∀ k,k < w.heap.size → P k = false → Q k = false ∧ w'.heap[k]? = w.heap[k]?):ValAt (hidden Q w') V v:=by
 refine h.imp fun p u hu => ?_
 obtain ⟨h1,hc,h2⟩:=(hidden_cell P w p u).1 hu
 obtain ⟨h3,h4⟩:=hk p.block (cell_lt h2) h1
 refine (hidden_cell Q w' p u).2 ⟨h3,by rw [h4]; exact hc,?_⟩
 rw [← h2]
 unfold World.cell?
 rw [h4]
/-! A value's five cells, by their parts. -/
structure VC where
 k:Int
 n:Int
 t:ByteArray
 a:Option Addr
 l:Nat
 c:Nat
 b:Option Addr
 m:Nat
 e:Nat
instance : Inhabited VC:=⟨⟨0,0,⟨#[]⟩,none,0,0,none,0,0⟩⟩
def VC.cells (x:VC):List Value:=[.int .u8 x.k,.int .i64 x.n,.string x.t,.slice x.a x.l x.c,.slice x.b x.m x.e]
def VC.val (x:VC):Value:=.agg #[.int .u8 x.k,.int .i64 x.n,.string x.t,.slice x.a x.l x.c,.slice x.b x.m x.e]
theorem VC.cells_len (x:VC):x.cells.length = 5:=rfl
theorem valAt_vc {w:World} {V:JV} {v:Value} (h:ValAt w V v):∃ x:VC,v = x.val:=by
 obtain ⟨vn,vi,rfl,-,-,-,-,-,hn,hi⟩:=valAt_iff.1 h
 obtain ⟨a,c,rfl,-⟩:=hn.parts
 obtain ⟨b,e,rfl,-⟩:=hi.parts
 exact ⟨⟨V.k,V.n,V.t,a,_,c,b,_,e⟩,rfl⟩
abbrev XI:=VC × JV
def xiCells (xs:List XI):List Value:=xs.flatMap fun x => x.1.cells
theorem xiCells_snoc (xs:List XI) (x:XI):xiCells (xs ++ [x]) = xiCells xs ++ x.1.cells:=by simp [xiCells]
theorem xiCells_get:∀ (xs:List XI) (i:Nat) (x:XI),xs[i]? = some x → ∀ j,j < 5 → (xiCells xs)[i * 5 + j]? = x.1.cells[j]?
 | [],i,x,h,_,_ => by simp at h
 | y :: r,0,x,h,j,hj => by
   simp at h; subst h
   show (y.1.cells ++ xiCells r)[0 * 5 + j]? = _
   rw [Nat.zero_mul,Nat.zero_add,List.getElem?_append_left (by rw [VC.cells_len]; omega)]
 | y :: r,i + 1,x,h,j,hj => by
   show (y.1.cells ++ xiCells r)[(i + 1) * 5 + j]? = _
   rw [List.getElem?_append_right (by rw [VC.cells_len]; omega),← xiCells_get r i x (by simpa using h) j hj,VC.cells_len]
   congr 1
   omega
theorem rowAt_xi {w:World} {g:Nat}:∀ (xs:List XI) (o:Nat),(∀ i x,xs[i]? = some x → ∀ j c,x.1.cells[j]? = some c → w.cell? ⟨g,o + i * 5 + j,none⟩ = some c) → (∀ x ∈ xs,ValAt w x.2 x.1.val) → RowAt w g o (xs.map Prod.snd)
 | [],_,_,_ => rowAt_nil _ _ _
 | x :: r,o,hc,hv => by
   have h0:=fun j c hj => hc 0 x rfl j c hj
   simp only [Nat.zero_mul,Nat.add_zero] at h0
   refine rowAt_cons (hv x (by simp)) (h0 0 _ rfl) (h0 1 _ rfl) (h0 2 _ rfl) (h0 3 _ rfl) (h0 4 _ rfl) (rowAt_xi r (o + 5) (fun i y hy j c hj => ?_) (fun y hy => hv y (by simp [hy])))
   have:=hc (i + 1) y (by simpa using hy) j c hj
   rw [show o + (i + 1) * 5 + j = o + 5 + i * 5 + j by omega] at this
   exact this
def offB (B:Nat) (g:Option Nat) (k:Nat):Bool:=decide (k < B) || decide (g = some k)
theorem offB_none {B k:Nat}:offB B none k = false ↔ B ≤ k:=by simp [offB]
theorem offB_no {B k:Nat} {g:Option Nat}:offB B g k = false ↔ B ≤ k ∧ g ≠ some k:=by simp [offB]
def NewV (B:Nat) (w:World) (V:JV) (v:Value):Prop:=ValAt (hidden (offB B none) w) V v
def ItemsOwn (w:World) (B:Nat) (v:Value) (xs:List XI):Prop:=w.ownsRow B 29 5 v xs.length (xiCells xs) ∧ ∀ x ∈ xs,ValAt (hidden (offB B v.ownBlock) w) x.2 x.1.val
theorem ItemsOwn.nil (w:World) (B:Nat):ItemsOwn w B (.slice none 0 0) []:=⟨World.ownsRow_nil _ _ _ _,by simp⟩
theorem ItemsOwn.kept {w w':World} {B r:Nat} {v:Value} {xs:List XI} (h:ItemsOwn w B v xs) (hr:r < B) (hg:w.grownBy w' (some r)):ItemsOwn w' B v xs:=by
 refine ⟨?_,fun x hx => (h.2 x hx).carry fun k hk hP => ⟨hP,hg.block k hk (fun e => ?_)⟩⟩
 ·cases hv:v.ownBlock with
  | none => exact h.1.kept hg (Or.inl hv)
  | some g =>
    refine h.1.kept hg (Or.inr ?_)
    rw [hv]
    intro e
    have:=(World.ownsRow.lt h.1 g hv).1
    cases e
    omega
 ·have:=(offB_no.1 hP).1
  cases e
  omega
theorem ItemsOwn.out {w:World} {B:Nat} {v:Value} {xs:List XI} (h:ItemsOwn w B v xs) (hl:xs.length ≤ 9223372036854775807):ItemsAt (hidden (offB B none) w) v (xs.map Prod.snd):=by
 have h':=h.1
 refine ⟨by rw [List.length_map]; exact hl,?_⟩
 rcases h.1.2 with ⟨rfl,h0⟩ | ⟨g,cap,cur,rfl,hB,hcl,_⟩
 ·left
  have:xs = []:=List.length_eq_zero_iff.1 h0
  subst this
  exact ⟨rfl,_,_,rfl⟩
 ·right
  refine ⟨g,0,cap,by rw [List.length_map],rowAt_xi xs 0 (fun i x hx j c hj => ?_) (fun x hx => (h.2 x hx).carry fun k hk hP => ⟨offB_none.2 (offB_no.1 hP).1,rfl⟩)⟩
  have hc:=World.ownsRow.cells h' (g:=g) rfl
  have hadd:∀ j,(⟨g,0,none⟩:Addr).add j = ⟨g,j,none⟩:=fun j => by unfold Addr.add; split <;> simp_all
  refine (hidden_cell _ _ _ _).2 ⟨offB_none.2 hB,⟨_,_,hcl⟩,?_⟩
  have hj5:j < 5:=by
   have:=(List.getElem?_eq_some_iff.1 hj).1
   rwa [VC.cells_len] at this
  rw [show 0 + i * 5 + j = i * 5 + j by omega,← hadd]
  exact hc _ _ ((xiCells_get xs i x hx j hj5).trans hj)
end

section
open Go.RowKit
abbrev RepoP:=ByteArray × List ByteArray
structure MapgP where
 paths:List ByteArray
 repos:List ByteArray
 term:Bool
 thr:Int
 deriving DecidableEq
structure MapP where
 repos:List RepoP
 maps:List MapgP
 deriving DecidableEq
def nameC (c:UInt8):Bool :=
 (decide (97 ≤ c.toNat) && decide (c.toNat ≤ 122)) || (decide (65 ≤ c.toNat) && decide (c.toNat ≤ 90)) || (decide (48 ≤ c.toNat) && decide (c.toNat ≤ 57)) || decide (c.toNat = 46) || decide (c.toNat = 95) || decide (c.toNat = 45)
def roleB (s:ByteArray):Bool:=decide (1 ≤ s.size) && decide (s.size ≤ 64) && decide (s.data.toList.head? ≠ some 46) && s.data.toList.all nameC
def pathB (s:ByteArray):Bool:=decide (1 ≤ s.size) && decide (s.size ≤ 256) && decide (s.data.toList.head? ≠ some 47) && utfOK s
def inL (l:List ByteArray) (s:ByteArray):Bool:=l.any fun a => decide (a = s)
theorem inL_iff {l:List ByteArray} {s:ByteArray}:inL l s = true ↔ s ∈ l:=by
 unfold inL
 rw [List.any_eq_true]
 constructor
 ·rintro ⟨a,ha,h⟩
  rw [← of_decide_eq_true h]
  exact ha
 ·exact fun h => ⟨s,h,decide_eq_true rfl⟩
def wrongPathsV (l:List ByteArray):Int:=if 32 < l.length then 5 else if l = [] then 4 else if l.all pathB = true then 0 else 3
def wrongGo (R:List ByteArray):List ByteArray → List ByteArray → Int
 | _,[] => 0
 | ahead,n :: r => if inL R n = false then 6 else if inL ahead n = true then 7 else wrongGo R (ahead ++ [n]) r
def wrongReposV (l:List ByteArray) (R:List ByteArray):Int:=if l = [] then 4 else wrongGo R [] l
def tPaths:ByteArray:=⟨#[112,97,116,104,115]⟩
def tRepos:ByteArray:=⟨#[114,101,112,111,115,105,116,111,114,105,101,115]⟩
def tTerm:ByteArray:=⟨#[116,101,114,109,105,110,97,116,105,110,103]⟩
def tThr:ByteArray:=⟨#[116,104,114,101,115,104,111,108,100]⟩
def tMapping:ByteArray:=⟨#[109,97,112,112,105,110,103]⟩
/-! What pickers give: texts, a truth, a number. -/
def textsQ (V:JV) (n:ByteArray) (most:Nat) (s:PS):List ByteArray × PS :=
 match takeQ V n 4 s with
 | (none,s) => ([],s)
 | (some x,s) => if most < x.items.length then ([],.bad 5) else if x.items.all (fun y => decide (y.k = 3)) = true then (x.items.map JV.t,s) else ([],.bad 10)
def boolQ (V:JV) (n:ByteArray) (s:PS):Bool × PS :=
 match takeQ V n 1 s with
 | (none,s) => (false,s)
 | (some x,s) => (decide (x.n = 1),s)
def numQ (V:JV) (n:ByteArray) (lo hi:Int) (s:PS):Int × PS :=
 match takeQ V n 2 s with
 | (none,s) => (0,s)
 | (some x,s) => if x.n < lo ∨ hi < x.n then (0,.bad 1) else (x.n,s)
def mappingV (V:JV) (R:List ByteArray):PQ MapgP :=
 let p:=textsQ V tPaths 32 (pickQ V)
 let r:=textsQ V tRepos 8 (failQ (wrongPathsV p.1) p.2)
 let b:=boolQ V tTerm (failQ (wrongReposV r.1 R) r.2)
 let t:=numQ V tThr 1 r.1.length b.2
 if doneQ V t.2 ≠ 0 then .bad (doneQ V t.2) else .ok ⟨p.1,r.1,b.1,t.1⟩
def repoGo:List ByteArray → List JV → List RepoP × Int
 | n :: ns,x :: xs => if roleB n = false then ([],3) else if x.k ≠ 4 then ([],10) else if 8 < x.items.length then ([],5) else if x.items.all (fun y => decide (y.k = 3)) = false then ([],10)
     else if (repoGo ns xs).2 = 0 then ((n,x.items.map JV.t) :: (repoGo ns xs).1,0) else ([],(repoGo ns xs).2)
 | _,_ => ([],0)
def reposV (V:JV):List RepoP × Int:=if V.items = [] then ([],4) else repoGo V.names V.items
def mapsV (R:List ByteArray):List JV → List MapgP × Int
 | [] => ([],0)
 | x :: r => match mappingV x R with
   | .bad e => ([],e)
   | .ok m => (m :: (mapsV R r).1,(mapsV R r).2)
def namesR (l:List RepoP):List ByteArray:=l.map Prod.fst
def chartV (V:JV):PQ MapP :=
 if mayB V = false then .bad 3
 else
  let o:=objQ V tRepos 8 (pickQ V)
  let l:=listQ V tMapping 16 (failQ (reposV o.1).2 o.2)
  let s:=failQ (mapsV (namesR (reposV o.1).1) l.1).2 l.2
  if doneQ V s ≠ 0 then .bad (doneQ V s) else .ok ⟨(reposV o.1).1,(mapsV (namesR (reposV o.1).1) l.1).1⟩
def chartT (s:List UInt8):PQ MapP :=
 match readV s with
 | .bad _ e => .bad e
 | .ok V _ _ => chartV V
/-! Which maps may be. -/
def wrongV (x:MapgP) (R:List ByteArray):Int :=
 if wrongPathsV x.paths ≠ 0 then wrongPathsV x.paths else if wrongReposV x.repos R ≠ 0 then wrongReposV x.repos R else if x.thr < 1 ∨ (x.repos.length:Int) < x.thr then 1 else 0
def urlsB (l:List ByteArray):Bool:=decide (l.length ≤ 8) && l.all writ
def mayM (M:MapP):Bool :=
 decide (1 ≤ M.repos.length) && decide (M.repos.length ≤ 8) && decide (M.maps.length ≤ 16) && ascB (namesR M.repos) && M.repos.all (fun r => roleB r.1 && urlsB r.2) && M.maps.all (fun x => decide (wrongV x (namesR M.repos) = 0))
/-! How they lie in memory. -/
def CapOk (v:Value):Prop:=∀ a n c,v = .slice a n c → n ≤ c
def ReposAt (w:World) (v:Value) (l:List RepoP):Prop :=
 l.length ≤ 9223372036854775807 ∧ ∃ a c,v = .slice a l.length c ∧ ∀ i r,l[i]? = some r → ∃ b o u,a = some ⟨b,o,none⟩ ∧ w.cell? ⟨b,o + i * 2,none⟩ = some (.string r.1) ∧ w.cell? ⟨b,o + i * 2 + 1,none⟩ = some u ∧ r.1.size ≤ maxLen ∧ StrsAt w u r.2
def MapsAt (w:World) (v:Value) (l:List MapgP):Prop :=
 l.length ≤ 9223372036854775807 ∧ CapOk v ∧ ∃ a c,v = .slice a l.length c ∧ ∀ i x,l[i]? = some x → ∃ b o u1 u2,a = some ⟨b,o,none⟩ ∧ w.cell? ⟨b,o + i * 4,none⟩ = some u1 ∧ w.cell? ⟨b,o + i * 4 + 1,none⟩ = some u2 ∧ w.cell? ⟨b,o + i * 4 + 2,none⟩ = some (.bool x.term) ∧ w.cell? ⟨b,o + i * 4 + 3,none⟩ = some (.int .i64 x.thr) ∧ StrsAt w u1 x.paths ∧ StrsAt w u2 x.repos ∧ CapOk u2 ∧ -9223372036854775808 ≤ x.thr ∧ x.thr ≤ 9223372036854775807
def MapgAt (w:World) (v:Value) (x:MapgP):Prop:=∃ u1 u2,v = .agg #[u1,u2,.bool x.term,.int .i64 x.thr] ∧ StrsAt w u1 x.paths ∧ StrsAt w u2 x.repos ∧ CapOk u2 ∧ -9223372036854775808 ≤ x.thr ∧ x.thr ≤ 9223372036854775807
def MapAt (w:World) (v:Value) (M:MapP):Prop:=∃ u1 u2,v = .agg #[u1,u2] ∧ ReposAt w u1 M.repos ∧ MapsAt w u2 M.maps
theorem ReposAt.imp {w w':World} {v:Value} {l:List RepoP} (h:ReposAt w v l) (hc:∀ p u,w.cell? p = some u → w'.cell? p = some u):ReposAt w' v l:=by
 obtain ⟨h0,a,c,e,h1⟩:=h
 refine ⟨h0,a,c,e,fun i r hr => ?_⟩
 obtain ⟨b,o,u,e1,c0,c1,hs,hu⟩:=h1 i r hr
 exact ⟨b,o,u,e1,hc _ _ c0,hc _ _ c1,hs,hu.imp hc⟩
theorem MapsAt.imp {w w':World} {v:Value} {l:List MapgP} (h:MapsAt w v l) (hc:∀ p u,w.cell? p = some u → w'.cell? p = some u):MapsAt w' v l:=by
 obtain ⟨h0,hk,a,c,e,h1⟩:=h
 refine ⟨h0,hk,a,c,e,fun i x hx => ?_⟩
 obtain ⟨b,o,u1,u2,e1,c0,c1,c2,c3,s1,s2,t⟩:=h1 i x hx
 exact ⟨b,o,u1,u2,e1,hc _ _ c0,hc _ _ c1,hc _ _ c2,hc _ _ c3,s1.imp hc,s2.imp hc,t⟩
theorem MapgAt.imp {w w':World} {v:Value} {x:MapgP} (h:MapgAt w v x) (hc:∀ p u,w.cell? p = some u → w'.cell? p = some u):MapgAt w' v x:=by
 obtain ⟨u1,u2,e,h1,h2,h3⟩:=h
 exact ⟨u1,u2,e,h1.imp hc,h2.imp hc,h3⟩
theorem MapAt.imp {w w':World} {v:Value} {M:MapP} (h:MapAt w v M) (hc:∀ p u,w.cell? p = some u → w'.cell? p = some u):MapAt w' v M:=by
 obtain ⟨u1,u2,e,h1,h2⟩:=h
 exact ⟨u1,u2,e,h1.imp hc,h2.imp hc⟩
theorem ReposAt.keep {w w':World} (hb:Below w.heap.size w w') {v:Value} {l:List RepoP} (h:ReposAt w v l):ReposAt w' v l:=h.imp fun _ _ => cell_keep hb
theorem MapsAt.keep {w w':World} (hb:Below w.heap.size w w') {v:Value} {l:List MapgP} (h:MapsAt w v l):MapsAt w' v l:=h.imp fun _ _ => cell_keep hb
theorem MapgAt.keep {w w':World} (hb:Below w.heap.size w w') {v:Value} {x:MapgP} (h:MapgAt w v x):MapgAt w' v x:=h.imp fun _ _ => cell_keep hb
theorem MapAt.keep {w w':World} (hb:Below w.heap.size w w') {v:Value} {M:MapP} (h:MapAt w v M):MapAt w' v M:=h.imp fun _ _ => cell_keep hb
/-! The mappings for a path. -/
section
variable (hit:ByteArray → ByteArray → Bool)
def anyH (l:List ByteArray) (p:ByteArray):Bool:=l.any fun a => hit a p
def forV (p:ByteArray):List MapgP → List MapgP
 | [] => []
 | x :: r => if anyH hit x.paths p = true then x :: (if x.term = true then [] else forV p r) else forV p r
end
end

section
set_option maxRecDepth 100000
open Go.RowKit
set_option maxHeartbeats 2000000 in
theorem allowed_any (c:UInt8) (w:World):Calls Tryz.prog 60 #[.int .u8 c.toNat] w fun e w' => e = .returned (.bool (nameC c)) ∧ w = w':=by
 have hc:=u8_lt c
 obtain ⟨n,hn⟩:∃ n,c.toNat = n:=⟨_,rfl⟩
 obtain ⟨b,hb⟩:∃ b,nameC c = b:=⟨_,rfl⟩
 have hcs:(97 ≤ n ∧ n ≤ 122 ∧ b = true) ∨ (123 ≤ n ∧ b = false) ∨ (65 ≤ n ∧ n ≤ 90 ∧ b = true) ∨ (n = 95 ∧ b = true) ∨ (91 ≤ n ∧ n ≤ 96 ∧ n ≠ 95 ∧ b = false) ∨ (48 ≤ n ∧ n ≤ 57 ∧ b = true) ∨ (58 ≤ n ∧ n ≤ 64 ∧ b = false) ∨ (n = 46 ∧ b = true) ∨ (n = 45 ∧ b = true) ∨ (n < 48 ∧ n ≠ 46 ∧ n ≠ 45 ∧ b = false):=by
  rw [← hb]
  unfold nameC
  rw [hn]
  simp only [Bool.or_eq_true,Bool.and_eq_true,decide_eq_true_eq,Bool.or_eq_false_iff,Bool.and_eq_false_iff,decide_eq_false_iff_not]
  omega
 rw [hb,hn]
 clear hb hn
 rcases hcs with ⟨h1,h2,rfl⟩ | ⟨h1,rfl⟩ | ⟨h1,h2,rfl⟩ | ⟨rfl,rfl⟩ | ⟨h1,h2,h3,rfl⟩ | ⟨h1,h2,rfl⟩ | ⟨h1,h2,rfl⟩ | ⟨rfl,rfl⟩ | ⟨rfl,rfl⟩ | ⟨h1,h2,h3,rfl⟩
 ·have d0:(97:Int) ≤ (n:Int):=by omega
  have d1:(n:Int) ≤ 122:=by omega
  have d2:(65:Int) ≤ (n:Int):=by omega
  have d3:¬ (n:Int) ≤ 90:=by omega
  have d4:(48:Int) ≤ (n:Int):=by omega
  have d5:¬ (n:Int) ≤ 57:=by omega
  go_enter Tryz.func60,Tryz.ntmps60
  go_wp2_with fail
  go_ret
  exact ⟨rfl,rfl⟩
 ·have d0:(97:Int) ≤ (n:Int):=by omega
  have d1:¬ (n:Int) ≤ 122:=by omega
  have d2:(65:Int) ≤ (n:Int):=by omega
  have d3:¬ (n:Int) ≤ 90:=by omega
  have d4:(48:Int) ≤ (n:Int):=by omega
  have d5:¬ (n:Int) ≤ 57:=by omega
  have e46:((n:Int) == 46) = false:=beq_eq_false_iff_ne.2 (by omega)
  have e95:((n:Int) == 95) = false:=beq_eq_false_iff_ne.2 (by omega)
  have e45:((n:Int) == 45) = false:=beq_eq_false_iff_ne.2 (by omega)
  go_enter Tryz.func60,Tryz.ntmps60
  go_wp2_with fail
  go_ret
  exact ⟨rfl,rfl⟩
 ·have d0:¬ (97:Int) ≤ (n:Int):=by omega
  have d1:(n:Int) ≤ 122:=by omega
  have d2:(65:Int) ≤ (n:Int):=by omega
  have d3:(n:Int) ≤ 90:=by omega
  have d4:(48:Int) ≤ (n:Int):=by omega
  have d5:¬ (n:Int) ≤ 57:=by omega
  go_enter Tryz.func60,Tryz.ntmps60
  go_wp2_with fail
  go_ret
  exact ⟨rfl,rfl⟩
 ·go_enter Tryz.func60,Tryz.ntmps60
  go_wp2_with fail
  go_ret
  exact ⟨rfl,rfl⟩
 ·have d0:¬ (97:Int) ≤ (n:Int):=by omega
  have d1:(n:Int) ≤ 122:=by omega
  have d2:(65:Int) ≤ (n:Int):=by omega
  have d3:¬ (n:Int) ≤ 90:=by omega
  have d4:(48:Int) ≤ (n:Int):=by omega
  have d5:¬ (n:Int) ≤ 57:=by omega
  have e46:((n:Int) == 46) = false:=beq_eq_false_iff_ne.2 (by omega)
  have e95:((n:Int) == 95) = false:=beq_eq_false_iff_ne.2 (by omega)
  have e45:((n:Int) == 45) = false:=beq_eq_false_iff_ne.2 (by omega)
  go_enter Tryz.func60,Tryz.ntmps60
  go_wp2_with fail
  go_ret
  exact ⟨rfl,rfl⟩
 ·have d0:¬ (97:Int) ≤ (n:Int):=by omega
  have d1:(n:Int) ≤ 122:=by omega
  have d2:¬ (65:Int) ≤ (n:Int):=by omega
  have d3:(n:Int) ≤ 90:=by omega
  have d4:(48:Int) ≤ (n:Int):=by omega
  have d5:(n:Int) ≤ 57:=by omega
  go_enter Tryz.func60,Tryz.ntmps60
  go_wp2_with fail
  go_ret
  exact ⟨rfl,rfl⟩
 ·have d0:¬ (97:Int) ≤ (n:Int):=by omega
  have d1:(n:Int) ≤ 122:=by omega
  have d2:¬ (65:Int) ≤ (n:Int):=by omega
  have d3:(n:Int) ≤ 90:=by omega
  have d4:(48:Int) ≤ (n:Int):=by omega
  have d5:¬ (n:Int) ≤ 57:=by omega
  have e46:((n:Int) == 46) = false:=beq_eq_false_iff_ne.2 (by omega)
  have e95:((n:Int) == 95) = false:=beq_eq_false_iff_ne.2 (by omega)
  have e45:((n:Int) == 45) = false:=beq_eq_false_iff_ne.2 (by omega)
  go_enter Tryz.func60,Tryz.ntmps60
  go_wp2_with fail
  go_ret
  exact ⟨rfl,rfl⟩
 ·go_enter Tryz.func60,Tryz.ntmps60
  go_wp2_with fail
  go_ret
  exact ⟨rfl,rfl⟩
 ·go_enter Tryz.func60,Tryz.ntmps60
  go_wp2_with fail
  go_ret
  exact ⟨rfl,rfl⟩
 ·have d0:¬ (97:Int) ≤ (n:Int):=by omega
  have d1:(n:Int) ≤ 122:=by omega
  have d2:¬ (65:Int) ≤ (n:Int):=by omega
  have d3:(n:Int) ≤ 90:=by omega
  have d4:¬ (48:Int) ≤ (n:Int):=by omega
  have d5:(n:Int) ≤ 57:=by omega
  have e46:((n:Int) == 46) = false:=beq_eq_false_iff_ne.2 (by omega)
  have e95:((n:Int) == 95) = false:=beq_eq_false_iff_ne.2 (by omega)
  have e45:((n:Int) == 45) = false:=beq_eq_false_iff_ne.2 (by omega)
  go_enter Tryz.func60,Tryz.ntmps60
  go_wp2_with fail
  go_ret
  exact ⟨rfl,rfl⟩
theorem data_first {s:ByteArray} (h:0 < s.size):s.data.toList.head? = some s[0]:=by
 rw [List.head?_eq_getElem?,List.getElem?_eq_getElem (by rw [size_len]; exact h)]
 rfl
theorem nameC_more {s:ByteArray} {k:Nat} (h:k < s.size) (ha:(s.data.toList.take k).all nameC = true) (hc:nameC s[k] = true):(s.data.toList.take (k + 1)).all nameC = true:=by
 rw [take_snoc s k h,List.all_append,ha]
 simp [hc]
theorem nameC_no {s:ByteArray} {k:Nat} (h:k < s.size) (hc:nameC s[k] = false):s.data.toList.all nameC = false:=by
 rw [List.all_eq_false]
 exact ⟨s[k],mem_at s k h,by simp [hc]⟩
theorem emptyA {s:ByteArray} (h:s.size = 0):s = ⟨#[]⟩:=bytes_ext (by
 have:=size_len s
 rw [h] at this
 exact List.eq_nil_of_length_eq_zero this)
theorem toList_ne {s:ByteArray} (h:0 < s.size):(s.toList == []) = false:=by
 rw [beq_eq_false_iff_ne,toList_data]
 intro e
 have:=size_len s
 rw [e] at this
 simp at this
 omega
set_option maxHeartbeats 2000000 in
theorem role_any (s:ByteArray) (w:World):Calls Tryz.prog 30 #[.string s] w fun e w' => e = .returned (.bool (roleB s)) ∧ w = w':=by
 obtain ⟨r,hr⟩:∃ r,roleB s = r:=⟨_,rfl⟩
 rw [hr]
 unfold roleB at hr
 by_cases h0:s.size = 0
 ·obtain rfl:=emptyA h0
  obtain rfl:false = r:=by rw [← hr]; rfl
  clear hr h0
  go_enter Tryz.func30,Tryz.ntmps30
  go_wp2_with fail
  go_ret
  exact ⟨rfl,rfl⟩
 ·have hp:0 < s.size:=by omega
  have hne:=toList_ne hp
  have hd:=data_first hp
  have i1:(0:Int) < (s.size:Int):=by omega
  by_cases h64:s.size ≤ 64
  ·have g1:decide ((64:Int) < (s.size:Int)) = false:=decide_eq_false (by omega)
   have g2:decide (64 < s.size) = false:=decide_eq_false (by omega)
   by_cases hdot:s[0].toNat = 46
   ·have e1:((s[0].toNat:Int) == 46) = true:=by rw [hdot]; rfl
    obtain rfl:false = r:=by
     rw [← hr,hd]
     have:s[0] = 46:=UInt8.toNat_inj.1 hdot
     rw [this]
     simp
    clear hr hd hdot
    go_enter Tryz.func30,Tryz.ntmps30
    go_wp2_with fail
    go_ret
    exact ⟨rfl,rfl⟩
   ·have e1:((s[0].toNat:Int) == 46) = false:=beq_eq_false_iff_ne.2 (by omega)
    have hr2:s.data.toList.all nameC = r:=by
     rw [← hr,hd]
     have:s[0] ≠ 46:=fun e => hdot (by rw [e]; rfl)
     simp [show 1 ≤ s.size by omega,h64,this]
    have HR:=Lib.hid hr2
    clear hr hr2 hd hdot
    go_enter Tryz.func30,Tryz.ntmps30
    go_wp2_with fail
    go_loop [18] (fun i => ∃ k:Nat,k ≤ s.size ∧ i = .int .i64 k ∧ Hid ((s.data.toList.take k).all nameC = true)) (fun i => s.size - (intOf i).toNat)
    case atStart => exact ⟨0,by omega,rfl,by show _ = _; simp⟩
    case round =>
     obtain ⟨k,hk,rfl,HA⟩:=hrel
     by_cases hlt:k < s.size
     ·have j0:(0:Int) ≤ (k:Int):=by omega
      have j1:(k:Int) < (s.size:Int):=by omega
      have HV:=Lib.hid (fun W => allowed_any s[k] W)
      by_cases hdg:nameC s[k] = true
      ·have HM:=Lib.hid (nameC_more hlt HA.out hdg)
       rw [hdg] at HV
       clear hdg HA
       go_wp2_with fail
       refine (HV.out _).mono ?_
       rintro e w2 ⟨rfl,rfl⟩
       go_wp2_with fail
       exact ⟨⟨k + 1,by omega,by go_num,HM⟩,by simp [intOf]; omega⟩
      ·have hdg':nameC s[k] = false:=by simpa using hdg
       have hno:=nameC_no hlt hdg'
       rw [HR.out] at hno
       subst hno
       rw [hdg'] at HV
       clear hdg hdg' HA
       go_wp2_with fail
       refine (HV.out _).mono ?_
       rintro e w2 ⟨rfl,rfl⟩
       go_wp2_with fail
       go_ret
       exact ⟨rfl,rfl⟩
     ·have hall:=HA.out
      rw [List.take_of_length_le (by rw [size_len]; omega),HR.out] at hall
      subst hall
      have j1:¬ (k:Int) < (s.size:Int):=by omega
      clear HA
      go_wp2_with fail
      go_ret
      exact ⟨rfl,rfl⟩
  ·have g1:decide ((64:Int) < (s.size:Int)) = true:=decide_eq_true (by omega)
   have g2:decide (64 < s.size) = true:=decide_eq_true (by omega)
   obtain rfl:false = r:=by rw [← hr,decide_eq_false h64]; simp
   clear hr hd
   go_enter Tryz.func30,Tryz.ntmps30
   go_wp2_with fail
   go_ret
   exact ⟨rfl,rfl⟩
set_option maxHeartbeats 2000000 in
theorem path_any (s:ByteArray) (w:World) (hs:s.size ≤ maxLen):Calls Tryz.prog 114 #[.string s] w fun e w' => e = .returned (.bool (pathB s)) ∧ Below w.heap.size w w':=by
 obtain ⟨r,hr⟩:∃ r,pathB s = r:=⟨_,rfl⟩
 rw [hr]
 unfold pathB at hr
 by_cases h0:s.size = 0
 ·obtain rfl:=emptyA h0
  obtain rfl:false = r:=by rw [← hr]; rfl
  clear hr h0 hs
  go_enter Tryz.func114,Tryz.ntmps114
  go_wp2_with fail
  go_ret
  exact ⟨rfl,Below.refl _ _⟩
 ·have hp:0 < s.size:=by omega
  have hne:=toList_ne hp
  have hne2:(s.toList != []) = true:=by rw [bne,hne]; rfl
  have hd:=data_first hp
  have i1:(0:Int) < (s.size:Int):=by omega
  by_cases h64:s.size ≤ 256
  ·have g1:decide ((s.size:Int) ≤ 256) = true:=decide_eq_true (by omega)
   have g2:decide (s.size ≤ 256) = true:=decide_eq_true (by omega)
   by_cases hdot:s[0].toNat = 47
   ·have e1:((s[0].toNat:Int) != 47) = false:=by rw [hdot]; rfl
    obtain rfl:false = r:=by
     rw [← hr,hd]
     have:s[0] = 47:=UInt8.toNat_inj.1 hdot
     rw [this]
     simp
    clear hr hd hdot
    go_enter Tryz.func114,Tryz.ntmps114
    go_wp2_with fail
    go_ret
    exact ⟨rfl,Below.refl _ _⟩
   ·have e1:((s[0].toNat:Int) != 47) = true:=bne_iff_ne.2 (by omega)
    have hr2:utfOK s = r:=by
     rw [← hr,hd]
     have:s[0] ≠ 47:=fun e => hdot (by rw [e]; rfl)
     simp [show 1 ≤ s.size by omega,h64,this]
    have HU:=Lib.hid (fun W => utfValid_any s W hs)
    rw [hr2] at HU
    clear hr hr2 hd hdot
    go_enter Tryz.func114,Tryz.ntmps114
    go_wp2_with fail
    refine (HU.out _).mono ?_
    rintro e w2 ⟨rfl,hb⟩
    have HB:=Lib.hid hb
    clear hb
    go_wp2_with fail
    go_ret
    exact ⟨rfl,HB.out⟩
  ·have g1:decide ((s.size:Int) ≤ 256) = false:=decide_eq_false (by omega)
   have g2:decide (s.size ≤ 256) = false:=decide_eq_false (by omega)
   obtain rfl:false = r:=by rw [← hr,decide_eq_false h64]; simp
   clear hr hd
   go_enter Tryz.func114,Tryz.ntmps114
   go_wp2_with fail
   go_ret
   exact ⟨rfl,Below.refl _ _⟩
theorem pattern_any (s:ByteArray) (w:World) (hs:s.size ≤ maxLen):Calls Tryz.prog 84 #[.string s] w fun e w' => e = .returned (.bool (pathB s)) ∧ Below w.heap.size w w':=by
 have HP:=Lib.hid (fun W => path_any s W hs)
 go_enter Tryz.func84,Tryz.ntmps84
 go_wp2_with fail
 refine (HP.out _).mono ?_
 rintro e w2 ⟨rfl,hb⟩
 have HB:=Lib.hid hb
 clear hb
 go_wp2_with fail
 go_ret
 exact ⟨rfl,HB.out⟩
theorem allB_more {l:List ByteArray} {p:ByteArray → Bool} {k:Nat} {s:ByteArray} (hs:l[k]? = some s) (ha:(l.take k).all p = true) (hc:p s = true):(l.take (k + 1)).all p = true:=by
 rw [List.take_add_one,hs,List.all_append,ha]
 simp [hc]
set_option maxHeartbeats 2000000 in
theorem wrongPaths_any (l:List ByteArray) (v:Value) (w:World) (h:StrsAt w v l) :
 Calls Tryz.prog 61 #[v] w fun e w' => e = .returned (.int .i64 (wrongPathsV l)) ∧ Below w.heap.size w w':=by
 obtain ⟨a,cap,rfl,hl,hm,hc⟩:=h.parts
 obtain ⟨n,hn⟩:∃ n,l.length = n:=⟨_,rfl⟩
 obtain ⟨r,hr⟩:∃ r,wrongPathsV l = r:=⟨_,rfl⟩
 rw [hn] at hl ⊢
 rw [hr]
 unfold wrongPathsV at hr
 rw [hn] at hr
 have HC:=Lib.hid hc
 have HM:=Lib.hid hm
 have HN:=Lib.hid hn
 clear h hc hm hn
 by_cases h32:32 < n
 ·rw [if_pos h32] at hr
  subst hr
  have g1:(32:Int) < (n:Int):=by omega
  go_enter Tryz.func61,Tryz.ntmps61
  go_wp2_with fail
  go_ret
  exact ⟨rfl,Below.refl _ _⟩
 ·rw [if_neg h32] at hr
  have g1:¬ (32:Int) < (n:Int):=by omega
  by_cases hz:n = 0
  ·subst hz
   have hl0:l = []:=List.eq_nil_of_length_eq_zero HN.out
   rw [if_pos hl0] at hr
   subst hr
   clear HC HM HN hl0
   go_enter Tryz.func61,Tryz.ntmps61
   go_wp2_with fail
   go_ret
   exact ⟨rfl,Below.refl _ _⟩
  ·have hl0:l ≠ []:=fun e => hz (by rw [← HN.out,e]; rfl)
   rw [if_neg hl0] at hr
   have g2:((n:Int) == 0) = false:=beq_eq_false_iff_ne.2 (by omega)
   have HR:=Lib.hid hr
   clear hr hl0 h32 hz
   go_enter Tryz.func61,Tryz.ntmps61
   go_wp2_with fail
   go_loopw [13] (fun i wr => ∃ k:Nat,k ≤ n ∧ i = .int .i64 k ∧ Hid ((l.take k).all pathB = true) ∧ Hid (Below w.heap.size w wr)) (fun i _ => n - (intOf i).toNat)
   case atStart => exact ⟨0,by omega,rfl,by show _ = _; simp,Below.refl _ _⟩
   case round =>
    obtain ⟨k,hk,rfl,HA,HB⟩:=hrel
    by_cases hlt:k < n
    ·obtain ⟨s,hs⟩:∃ s,l[k]? = some s:=⟨_,List.getElem?_eq_getElem (by rw [HN.out]; exact hlt)⟩
     obtain ⟨b,o,rfl,hcs⟩:=HC.out k s hs
     have hcs2:=cell_keep HB.out hcs
     have hz:=HM.out s (List.mem_of_getElem? hs)
     have HP:=Lib.hid (fun W => pattern_any s W hz)
     have j0:(0:Int) ≤ (k:Int):=by omega
     have j1:(k:Int) < (n:Int):=by omega
     by_cases hp:pathB s = true
     ·have HA2:=Lib.hid (allB_more hs HA.out hp)
      rw [hp] at HP
      clear hs hcs hz hp HA
      go_wp2_with fail
      refine (HP.out _).mono ?_
      rintro e w2 ⟨rfl,hb⟩
      have HB2:=Lib.hid (below_more HB.out hb)
      clear hb
      go_wp2_with fail
      exact ⟨⟨k + 1,by omega,by go_num,HA2,HB2⟩,by simp [intOf]; omega⟩
     ·have hp':pathB s = false:=by simpa using hp
      have hno:l.all pathB = false:=List.all_eq_false.2 ⟨s,List.mem_of_getElem? hs,by simp [hp']⟩
      have hr:=HR.out
      rw [hno,if_neg (by decide)] at hr
      subst hr
      rw [hp'] at HP
      clear hs hcs hz hp hp' hno HA
      go_wp2_with fail
      refine (HP.out _).mono ?_
      rintro e w2 ⟨rfl,hb⟩
      have HB2:=Lib.hid (below_more HB.out hb)
      clear hb
      go_wp2_with fail
      go_ret
      exact ⟨rfl,HB2.out⟩
    ·have hall:=HA.out
     rw [List.take_of_length_le (by rw [HN.out]; omega)] at hall
     have hr:=HR.out
     rw [if_pos hall] at hr
     subst hr
     have j1:¬ (k:Int) < (n:Int):=by omega
     clear hall HA
     go_wp2_with fail
     go_ret
     exact ⟨rfl,HB.out⟩
end
end Go.Proofs.YtaloajeldimpnaaGreatDoor
