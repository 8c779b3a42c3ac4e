/-
 The walk of the law ChartNames.
-/
import Derived.Test.YtkphgjkflhjfjaaGreatDoorChartNr
import Derived.Test.YtkphgjkflhjfjaaGreatDoorChartNa
import Derived.Deep.DeepCutAuto
namespace Go.Proofs.YtkphgjkflhjfjaaGreatDoor
set_option maxRecDepth 100000
open Go.RowKit
theorem conv_byte (w:World) (n:Nat) (h:n < 256):(convert 45 9 (.slice (some ⟨w.heap.size,0,none⟩) 1 1)).run Tryz.prog (w.alloc (.cells #[.int .u8 (n:Int)] 5)) = .ok (.string ⟨#[UInt8.ofNat n]⟩) (w.alloc (.cells #[.int .u8 (n:Int)] 5)):=by
 refine run_convert_bytes_back _ _ _ _ ⟨w.heap.size,0,none⟩ 1 [UInt8.ofNat n] Tryz.underlying45 Tryz.underlying5 Tryz.underlying9 fun j hj => ?_
 obtain rfl:j = 0:=by simpa using hj
 rw [show ([UInt8.ofNat n][0]:UInt8) = UInt8.ofNat n from rfl,u8_ofU n h]
 exact cell_one_new _ _ _ 0 _ rfl
theorem u8_wrap_in (n:Int) (h:0 ≤ n ∧ n < 256):IntKind.u8.wrap n = n:=by
 have e1:IntKind.u8.signed = false:=rfl
 have e2:IntKind.u8.bits = 8:=rfl
 simp [IntKind.wrap,e1,e2]; omega
def RefAt (cs:Array Value) (q:Nat):Prop:=∃ (s:ByteArray) (er:Int),cs[q * 2]? = some (.string s) ∧ cs[q * 2 + 1]? = some (.int .i64 er) ∧ chartT s.data.toList = .bad er ∧ s.size ≤ 1000000
set_option maxHeartbeats 32000000 in
theorem chartNames_walk (w:World) (henv:NumEnv w) :
 Calls Tryz.prog 4 #[] w fun e w' => e = .returned (.bool true) ∧ Below w.heap.size w w':=by
 have HEV:Hid (∀ W,Below w.heap.size w W → NumEnv W):=fun W hb => henv.below hb
 have HAW:=Lib.hid (fun W (hb:Below w.heap.size w W) => awake25_any W (henv.below hb))
 obtain ⟨G,hG⟩:∃ T:ByteArray,cnGood = T:=⟨_,rfl⟩
 have zG:G.size = 71:=by rw [← hG]; rfl
 have HG:Hid (∀ W,Calls Tryz.prog 14 #[.string ⟨#[34,97,47,42,34]⟩,.string ⟨#[34,114,34]⟩,.string ⟨#[49]⟩] W fun e w' => e = .returned (.string G) ∧ w' = W):=fun W => by rw [← hG]; exact (mapping25_any _ _ _ W (by decide) (by decide) (by decide)).mono fun e w' h => ⟨h.1,h.2.symm⟩
 obtain ⟨T5,hT5⟩:∃ T:ByteArray,wholeT ⟨#[49]⟩ ⟨#[34,97,32,98,34,58,49]⟩ = T:=⟨_,rfl⟩
 have HT5:Hid (∀ W,Calls Tryz.prog 15 #[.string ⟨#[49]⟩,.string ⟨#[34,97,32,98,34,58,49]⟩] W fun e w' => e = .returned (.string T5) ∧ w' = W):=fun W => by rw [← hT5]; exact (whole25_any _ _ W (by decide) (by decide)).mono fun e w' h => ⟨h.1,h.2.symm⟩
 have c5:chartT T5.data.toList = .bad 3 ∧ T5.size ≤ 1000000:=by rw [← hT5]; exact ⟨cn_5,of_decide_eq_true (by kernel_rfl)⟩
 obtain ⟨T6,hT6⟩:∃ T:ByteArray,wholeT ⟨#[49]⟩ ⟨#[34,97,34,58,49]⟩ = T:=⟨_,rfl⟩
 have HT6:Hid (∀ W,Calls Tryz.prog 15 #[.string ⟨#[49]⟩,.string ⟨#[34,97,34,58,49]⟩] W fun e w' => e = .returned (.string T6) ∧ w' = W):=fun W => by rw [← hT6]; exact (whole25_any _ _ W (by decide) (by decide)).mono fun e w' h => ⟨h.1,h.2.symm⟩
 have c6:chartT T6.data.toList = .bad 10 ∧ T6.size ≤ 1000000:=by rw [← hT6]; exact ⟨cn_6,of_decide_eq_true (by kernel_rfl)⟩
 obtain ⟨T7,hT7⟩:∃ T:ByteArray,wholeT ⟨#[49]⟩ ⟨#[34,97,34,58,91,49,44,50,44,51,44,52,44,53,44,54,44,55,44,56,44,57,93]⟩ = T:=⟨_,rfl⟩
 have HT7:Hid (∀ W,Calls Tryz.prog 15 #[.string ⟨#[49]⟩,.string ⟨#[34,97,34,58,91,49,44,50,44,51,44,52,44,53,44,54,44,55,44,56,44,57,93]⟩] W fun e w' => e = .returned (.string T7) ∧ w' = W):=fun W => by rw [← hT7]; exact (whole25_any _ _ W (by decide) (by decide)).mono fun e w' h => ⟨h.1,h.2.symm⟩
 have c7:chartT T7.data.toList = .bad 5 ∧ T7.size ≤ 1000000:=by rw [← hT7]; exact ⟨cn_7,of_decide_eq_true (by kernel_rfl)⟩
 obtain ⟨T8,hT8⟩:∃ T:ByteArray,wholeT ⟨#[49]⟩ ⟨#[34,97,34,58,91,49,93]⟩ = T:=⟨_,rfl⟩
 have HT8:Hid (∀ W,Calls Tryz.prog 15 #[.string ⟨#[49]⟩,.string ⟨#[34,97,34,58,91,49,93]⟩] W fun e w' => e = .returned (.string T8) ∧ w' = W):=fun W => by rw [← hT8]; exact (whole25_any _ _ W (by decide) (by decide)).mono fun e w' h => ⟨h.1,h.2.symm⟩
 have c8:chartT T8.data.toList = .bad 10 ∧ T8.size ≤ 1000000:=by rw [← hT8]; exact ⟨cn_8,of_decide_eq_true (by kernel_rfl)⟩
 obtain ⟨T9,hT9⟩:∃ T:ByteArray,wholeT ⟨#[49]⟩ ⟨#[34,114,34,58,91,34,117,34,93,44,34,115,34,58,91,93]⟩ = T:=⟨_,rfl⟩
 have HT9:Hid (∀ W,Calls Tryz.prog 15 #[.string ⟨#[49]⟩,.string ⟨#[34,114,34,58,91,34,117,34,93,44,34,115,34,58,91,93]⟩] W fun e w' => e = .returned (.string T9) ∧ w' = W):=fun W => by rw [← hT9]; exact (whole25_any _ _ W (by decide) (by decide)).mono fun e w' h => ⟨h.1,h.2.symm⟩
 have c9:chartT T9.data.toList = .bad 10 ∧ T9.size ≤ 1000000:=by rw [← hT9]; exact ⟨cn_9,of_decide_eq_true (by kernel_rfl)⟩
 obtain ⟨T10,hT10⟩:∃ T:ByteArray,wholeT ⟨#[123,125]⟩ ⟨#[34,114,34,58,91,34,117,34,93,44,34,115,34,58,91,93]⟩ = T:=⟨_,rfl⟩
 have HT10:Hid (∀ W,Calls Tryz.prog 15 #[.string ⟨#[123,125]⟩,.string ⟨#[34,114,34,58,91,34,117,34,93,44,34,115,34,58,91,93]⟩] W fun e w' => e = .returned (.string T10) ∧ w' = W):=fun W => by rw [← hT10]; exact (whole25_any _ _ W (by decide) (by decide)).mono fun e w' h => ⟨h.1,h.2.symm⟩
 have c10:chartT T10.data.toList = .bad 6 ∧ T10.size ≤ 1000000:=by rw [← hT10]; exact ⟨cn_10,of_decide_eq_true (by kernel_rfl)⟩
 obtain ⟨M11,hM11⟩:∃ T:ByteArray,mappingT ⟨#[]⟩ ⟨#[]⟩ ⟨#[48]⟩ = T:=⟨_,rfl⟩
 have zM11:M11.size = 63:=by rw [← hM11]; rfl
 have HM11:Hid (∀ W,Calls Tryz.prog 14 #[.string ⟨#[]⟩,.string ⟨#[]⟩,.string ⟨#[48]⟩] W fun e w' => e = .returned (.string M11) ∧ w' = W):=fun W => by rw [← hM11]; exact (mapping25_any _ _ _ W (by decide) (by decide) (by decide)).mono fun e w' h => ⟨h.1,h.2.symm⟩
 obtain ⟨T11,hT11⟩:∃ T:ByteArray,wholeT M11 ⟨#[34,114,34,58,91,34,117,34,93,44,34,115,34,58,91,93]⟩ = T:=⟨_,rfl⟩
 have HT11:Hid (∀ W,Calls Tryz.prog 15 #[.string M11,.string ⟨#[34,114,34,58,91,34,117,34,93,44,34,115,34,58,91,93]⟩] W fun e w' => e = .returned (.string T11) ∧ w' = W):=fun W => by rw [← hT11]; exact (whole25_any _ _ W (by rw [zM11]; decide) (by decide)).mono fun e w' h => ⟨h.1,h.2.symm⟩
 have c11:chartT T11.data.toList = .bad 4 ∧ T11.size ≤ 1000000:=by rw [← hT11,← hM11]; exact ⟨cn_11,of_decide_eq_true (by kernel_rfl)⟩
 obtain ⟨M12,hM12⟩:∃ T:ByteArray,mappingT ⟨#[34,47,97,34]⟩ ⟨#[]⟩ ⟨#[48]⟩ = T:=⟨_,rfl⟩
 have zM12:M12.size = 67:=by rw [← hM12]; rfl
 have HM12:Hid (∀ W,Calls Tryz.prog 14 #[.string ⟨#[34,47,97,34]⟩,.string ⟨#[]⟩,.string ⟨#[48]⟩] W fun e w' => e = .returned (.string M12) ∧ w' = W):=fun W => by rw [← hM12]; exact (mapping25_any _ _ _ W (by decide) (by decide) (by decide)).mono fun e w' h => ⟨h.1,h.2.symm⟩
 obtain ⟨T12,hT12⟩:∃ T:ByteArray,wholeT M12 ⟨#[34,114,34,58,91,34,117,34,93,44,34,115,34,58,91,93]⟩ = T:=⟨_,rfl⟩
 have HT12:Hid (∀ W,Calls Tryz.prog 15 #[.string M12,.string ⟨#[34,114,34,58,91,34,117,34,93,44,34,115,34,58,91,93]⟩] W fun e w' => e = .returned (.string T12) ∧ w' = W):=fun W => by rw [← hT12]; exact (whole25_any _ _ W (by rw [zM12]; decide) (by decide)).mono fun e w' h => ⟨h.1,h.2.symm⟩
 have c12:chartT T12.data.toList = .bad 3 ∧ T12.size ≤ 1000000:=by rw [← hT12,← hM12]; exact ⟨cn_12,of_decide_eq_true (by kernel_rfl)⟩
 obtain ⟨M13,hM13⟩:∃ T:ByteArray,mappingT ⟨#[49]⟩ ⟨#[]⟩ ⟨#[48]⟩ = T:=⟨_,rfl⟩
 have zM13:M13.size = 64:=by rw [← hM13]; rfl
 have HM13:Hid (∀ W,Calls Tryz.prog 14 #[.string ⟨#[49]⟩,.string ⟨#[]⟩,.string ⟨#[48]⟩] W fun e w' => e = .returned (.string M13) ∧ w' = W):=fun W => by rw [← hM13]; exact (mapping25_any _ _ _ W (by decide) (by decide) (by decide)).mono fun e w' h => ⟨h.1,h.2.symm⟩
 obtain ⟨T13,hT13⟩:∃ T:ByteArray,wholeT M13 ⟨#[34,114,34,58,91,34,117,34,93,44,34,115,34,58,91,93]⟩ = T:=⟨_,rfl⟩
 have HT13:Hid (∀ W,Calls Tryz.prog 15 #[.string M13,.string ⟨#[34,114,34,58,91,34,117,34,93,44,34,115,34,58,91,93]⟩] W fun e w' => e = .returned (.string T13) ∧ w' = W):=fun W => by rw [← hT13]; exact (whole25_any _ _ W (by rw [zM13]; decide) (by decide)).mono fun e w' h => ⟨h.1,h.2.symm⟩
 have c13:chartT T13.data.toList = .bad 10 ∧ T13.size ≤ 1000000:=by rw [← hT13,← hM13]; exact ⟨cn_13,of_decide_eq_true (by kernel_rfl)⟩
 obtain ⟨M14,hM14⟩:∃ T:ByteArray,mappingT ⟨#[34,97,34]⟩ ⟨#[]⟩ ⟨#[48]⟩ = T:=⟨_,rfl⟩
 have zM14:M14.size = 66:=by rw [← hM14]; rfl
 have HM14:Hid (∀ W,Calls Tryz.prog 14 #[.string ⟨#[34,97,34]⟩,.string ⟨#[]⟩,.string ⟨#[48]⟩] W fun e w' => e = .returned (.string M14) ∧ w' = W):=fun W => by rw [← hM14]; exact (mapping25_any _ _ _ W (by decide) (by decide) (by decide)).mono fun e w' h => ⟨h.1,h.2.symm⟩
 obtain ⟨T14,hT14⟩:∃ T:ByteArray,wholeT M14 ⟨#[34,114,34,58,91,34,117,34,93,44,34,115,34,58,91,93]⟩ = T:=⟨_,rfl⟩
 have HT14:Hid (∀ W,Calls Tryz.prog 15 #[.string M14,.string ⟨#[34,114,34,58,91,34,117,34,93,44,34,115,34,58,91,93]⟩] W fun e w' => e = .returned (.string T14) ∧ w' = W):=fun W => by rw [← hT14]; exact (whole25_any _ _ W (by rw [zM14]; decide) (by decide)).mono fun e w' h => ⟨h.1,h.2.symm⟩
 have c14:chartT T14.data.toList = .bad 4 ∧ T14.size ≤ 1000000:=by rw [← hT14,← hM14]; exact ⟨cn_14,of_decide_eq_true (by kernel_rfl)⟩
 obtain ⟨M15,hM15⟩:∃ T:ByteArray,mappingT ⟨#[34,97,34]⟩ ⟨#[34,116,34,44,34,116,34]⟩ ⟨#[48]⟩ = T:=⟨_,rfl⟩
 have zM15:M15.size = 73:=by rw [← hM15]; rfl
 have HM15:Hid (∀ W,Calls Tryz.prog 14 #[.string ⟨#[34,97,34]⟩,.string ⟨#[34,116,34,44,34,116,34]⟩,.string ⟨#[48]⟩] W fun e w' => e = .returned (.string M15) ∧ w' = W):=fun W => by rw [← hM15]; exact (mapping25_any _ _ _ W (by decide) (by decide) (by decide)).mono fun e w' h => ⟨h.1,h.2.symm⟩
 obtain ⟨T15,hT15⟩:∃ T:ByteArray,wholeT M15 ⟨#[34,114,34,58,91,34,117,34,93,44,34,115,34,58,91,93]⟩ = T:=⟨_,rfl⟩
 have HT15:Hid (∀ W,Calls Tryz.prog 15 #[.string M15,.string ⟨#[34,114,34,58,91,34,117,34,93,44,34,115,34,58,91,93]⟩] W fun e w' => e = .returned (.string T15) ∧ w' = W):=fun W => by rw [← hT15]; exact (whole25_any _ _ W (by rw [zM15]; decide) (by decide)).mono fun e w' h => ⟨h.1,h.2.symm⟩
 have c15:chartT T15.data.toList = .bad 6 ∧ T15.size ≤ 1000000:=by rw [← hT15,← hM15]; exact ⟨cn_15,of_decide_eq_true (by kernel_rfl)⟩
 obtain ⟨M16,hM16⟩:∃ T:ByteArray,mappingT ⟨#[34,97,34]⟩ ⟨#[34,114,34,44,34,114,34]⟩ ⟨#[48]⟩ = T:=⟨_,rfl⟩
 have zM16:M16.size = 73:=by rw [← hM16]; rfl
 have HM16:Hid (∀ W,Calls Tryz.prog 14 #[.string ⟨#[34,97,34]⟩,.string ⟨#[34,114,34,44,34,114,34]⟩,.string ⟨#[48]⟩] W fun e w' => e = .returned (.string M16) ∧ w' = W):=fun W => by rw [← hM16]; exact (mapping25_any _ _ _ W (by decide) (by decide) (by decide)).mono fun e w' h => ⟨h.1,h.2.symm⟩
 obtain ⟨T16,hT16⟩:∃ T:ByteArray,wholeT M16 ⟨#[34,114,34,58,91,34,117,34,93,44,34,115,34,58,91,93]⟩ = T:=⟨_,rfl⟩
 have HT16:Hid (∀ W,Calls Tryz.prog 15 #[.string M16,.string ⟨#[34,114,34,58,91,34,117,34,93,44,34,115,34,58,91,93]⟩] W fun e w' => e = .returned (.string T16) ∧ w' = W):=fun W => by rw [← hT16]; exact (whole25_any _ _ W (by rw [zM16]; decide) (by decide)).mono fun e w' h => ⟨h.1,h.2.symm⟩
 have c16:chartT T16.data.toList = .bad 7 ∧ T16.size ≤ 1000000:=by rw [← hT16,← hM16]; exact ⟨cn_16,of_decide_eq_true (by kernel_rfl)⟩
 obtain ⟨M17,hM17⟩:∃ T:ByteArray,mappingT ⟨#[34,97,34]⟩ ⟨#[34,115,34,44,34,114,34]⟩ ⟨#[51]⟩ = T:=⟨_,rfl⟩
 have zM17:M17.size = 73:=by rw [← hM17]; rfl
 have HM17:Hid (∀ W,Calls Tryz.prog 14 #[.string ⟨#[34,97,34]⟩,.string ⟨#[34,115,34,44,34,114,34]⟩,.string ⟨#[51]⟩] W fun e w' => e = .returned (.string M17) ∧ w' = W):=fun W => by rw [← hM17]; exact (mapping25_any _ _ _ W (by decide) (by decide) (by decide)).mono fun e w' h => ⟨h.1,h.2.symm⟩
 obtain ⟨T17,hT17⟩:∃ T:ByteArray,wholeT M17 ⟨#[34,114,34,58,91,34,117,34,93,44,34,115,34,58,91,93]⟩ = T:=⟨_,rfl⟩
 have HT17:Hid (∀ W,Calls Tryz.prog 15 #[.string M17,.string ⟨#[34,114,34,58,91,34,117,34,93,44,34,115,34,58,91,93]⟩] W fun e w' => e = .returned (.string T17) ∧ w' = W):=fun W => by rw [← hT17]; exact (whole25_any _ _ W (by rw [zM17]; decide) (by decide)).mono fun e w' h => ⟨h.1,h.2.symm⟩
 have c17:chartT T17.data.toList = .bad 1 ∧ T17.size ≤ 1000000:=by rw [← hT17,← hM17]; exact ⟨cn_17,of_decide_eq_true (by kernel_rfl)⟩
 obtain ⟨M18,hM18⟩:∃ T:ByteArray,mappingT ⟨#[34,97,34]⟩ ⟨#[34,115,34,44,34,114,34]⟩ ⟨#[48]⟩ = T:=⟨_,rfl⟩
 have zM18:M18.size = 73:=by rw [← hM18]; rfl
 have HM18:Hid (∀ W,Calls Tryz.prog 14 #[.string ⟨#[34,97,34]⟩,.string ⟨#[34,115,34,44,34,114,34]⟩,.string ⟨#[48]⟩] W fun e w' => e = .returned (.string M18) ∧ w' = W):=fun W => by rw [← hM18]; exact (mapping25_any _ _ _ W (by decide) (by decide) (by decide)).mono fun e w' h => ⟨h.1,h.2.symm⟩
 obtain ⟨T18,hT18⟩:∃ T:ByteArray,wholeT M18 ⟨#[34,114,34,58,91,34,117,34,93,44,34,115,34,58,91,93]⟩ = T:=⟨_,rfl⟩
 have HT18:Hid (∀ W,Calls Tryz.prog 15 #[.string M18,.string ⟨#[34,114,34,58,91,34,117,34,93,44,34,115,34,58,91,93]⟩] W fun e w' => e = .returned (.string T18) ∧ w' = W):=fun W => by rw [← hT18]; exact (whole25_any _ _ W (by rw [zM18]; decide) (by decide)).mono fun e w' h => ⟨h.1,h.2.symm⟩
 have c18:chartT T18.data.toList = .bad 1 ∧ T18.size ≤ 1000000:=by rw [← hT18,← hM18]; exact ⟨cn_18,of_decide_eq_true (by kernel_rfl)⟩
 obtain ⟨M19,hM19⟩:∃ T:ByteArray,mappingT ⟨#[34,97,34]⟩ ⟨#[34,115,34,44,34,114,34]⟩ ⟨#[116,114,117,101]⟩ = T:=⟨_,rfl⟩
 have zM19:M19.size = 76:=by rw [← hM19]; rfl
 have HM19:Hid (∀ W,Calls Tryz.prog 14 #[.string ⟨#[34,97,34]⟩,.string ⟨#[34,115,34,44,34,114,34]⟩,.string ⟨#[116,114,117,101]⟩] W fun e w' => e = .returned (.string M19) ∧ w' = W):=fun W => by rw [← hM19]; exact (mapping25_any _ _ _ W (by decide) (by decide) (by decide)).mono fun e w' h => ⟨h.1,h.2.symm⟩
 obtain ⟨T19,hT19⟩:∃ T:ByteArray,wholeT M19 ⟨#[34,114,34,58,91,34,117,34,93,44,34,115,34,58,91,93]⟩ = T:=⟨_,rfl⟩
 have HT19:Hid (∀ W,Calls Tryz.prog 15 #[.string M19,.string ⟨#[34,114,34,58,91,34,117,34,93,44,34,115,34,58,91,93]⟩] W fun e w' => e = .returned (.string T19) ∧ w' = W):=fun W => by rw [← hT19]; exact (whole25_any _ _ W (by rw [zM19]; decide) (by decide)).mono fun e w' h => ⟨h.1,h.2.symm⟩
 have c19:chartT T19.data.toList = .bad 10 ∧ T19.size ≤ 1000000:=by rw [← hT19,← hM19]; exact ⟨cn_19,of_decide_eq_true (by kernel_rfl)⟩
 obtain ⟨M20,hM20⟩:∃ T:ByteArray,mappingT ⟨#[34,97,34]⟩ ⟨#[34,120,34]⟩ ⟨#[49]⟩ = T:=⟨_,rfl⟩
 have zM20:M20.size = 69:=by rw [← hM20]; rfl
 have HM20:Hid (∀ W,Calls Tryz.prog 14 #[.string ⟨#[34,97,34]⟩,.string ⟨#[34,120,34]⟩,.string ⟨#[49]⟩] W fun e w' => e = .returned (.string M20) ∧ w' = W):=fun W => by rw [← hM20]; exact (mapping25_any _ _ _ W (by decide) (by decide) (by decide)).mono fun e w' h => ⟨h.1,h.2.symm⟩
 obtain ⟨T20,hT20⟩:∃ T:ByteArray,wholeT ((G ++ ⟨#[44]⟩) ++ M20) ⟨#[34,114,34,58,91,34,117,34,93,44,34,115,34,58,91,93]⟩ = T:=⟨_,rfl⟩
 have HT20:Hid (∀ W,Calls Tryz.prog 15 #[.string ((G ++ ⟨#[44]⟩) ++ M20),.string ⟨#[34,114,34,58,91,34,117,34,93,44,34,115,34,58,91,93]⟩] W fun e w' => e = .returned (.string T20) ∧ w' = W):=fun W => by rw [← hT20]; exact (whole25_any _ _ W (by rw [ByteArray.size_append,ByteArray.size_append,zG,zM20]; decide) (by decide)).mono fun e w' h => ⟨h.1,h.2.symm⟩
 have c20:chartT T20.data.toList = .bad 6 ∧ T20.size ≤ 1000000:=by rw [← hT20,← hG,← hM20]; exact ⟨cq_20,of_decide_eq_true (by kernel_rfl)⟩
 obtain ⟨T21,hT21⟩:∃ T:ByteArray,wholeT (G.extract 0 70 ++ ⟨#[44,34,120,34,58,49,125]⟩) ⟨#[34,114,34,58,91,34,117,34,93,44,34,115,34,58,91,93]⟩ = T:=⟨_,rfl⟩
 have HT21:Hid (∀ W,Calls Tryz.prog 15 #[.string (G.extract 0 70 ++ ⟨#[44,34,120,34,58,49,125]⟩),.string ⟨#[34,114,34,58,91,34,117,34,93,44,34,115,34,58,91,93]⟩] W fun e w' => e = .returned (.string T21) ∧ w' = W):=fun W => by rw [← hT21]; exact (whole25_any _ _ W (by rw [ByteArray.size_append,ByteArray.size_extract,zG]; decide) (by decide)).mono fun e w' h => ⟨h.1,h.2.symm⟩
 have c21:chartT T21.data.toList = .bad 11 ∧ T21.size ≤ 1000000:=by rw [← hT21,← hG]; exact ⟨cq_21,of_decide_eq_true (by kernel_rfl)⟩
 obtain ⟨T22,hT22⟩:∃ T:ByteArray,wholeT G ⟨#[34,114,34,58,91,34,117,34,93,44,34,115,34,58,91,93]⟩ = T:=⟨_,rfl⟩
 have zT22:T22.size = 119:=by rw [← hT22,← hG]; rfl
 have HT22:Hid (∀ W,Calls Tryz.prog 15 #[.string G,.string ⟨#[34,114,34,58,91,34,117,34,93,44,34,115,34,58,91,93]⟩] W fun e w' => e = .returned (.string T22) ∧ w' = W):=fun W => by rw [← hT22]; exact (whole25_any _ _ W (by rw [zG]; decide) (by decide)).mono fun e w' h => ⟨h.1,h.2.symm⟩
 have c22:chartT (⟨#[123,34,97,34,58,49,44]⟩ ++ T22.extract 1 119).data.toList = .bad 11 ∧ (⟨#[123,34,97,34,58,49,44]⟩ ++ T22.extract 1 119).size ≤ 1000000:=by rw [← hT22,← hG]; exact ⟨cq_22,of_decide_eq_true (by kernel_rfl)⟩
 have c24:chartT (T22 ++ ⟨#[49]⟩).data.toList = .bad 11 ∧ (T22 ++ ⟨#[49]⟩).size ≤ 1000000:=by rw [← hT22,← hG]; exact ⟨cq_24,of_decide_eq_true (by kernel_rfl)⟩
 obtain ⟨cs,hcs⟩:∃ cs:Array Value,#[.string ⟨#[]⟩,.int .i64 4,.string ⟨#[91,93]⟩,.int .i64 10,.string ⟨#[123,125]⟩,.int .i64 6,.string ⟨#[123,34,109,97,112,112,105,110,103,34,58,49,44,34,114,101,112,111,115,105,116,111,114,105,101,115,34,58,123,125,125]⟩,.int .i64 4,.string ⟨#[123,34,109,97,112,112,105,110,103,34,58,49,44,34,114,101,112,111,115,105,116,111,114,105,101,115,34,58,91,93,125]⟩,.int .i64 10,.string T5,.int .i64 3,.string T6,.int .i64 10,.string T7,.int .i64 5,.string T8,.int .i64 10,.string T9,.int .i64 10,.string T10,.int .i64 6,.string T11,.int .i64 4,.string T12,.int .i64 3,.string T13,.int .i64 10,.string T14,.int .i64 4,.string T15,.int .i64 6,.string T16,.int .i64 7,.string T17,.int .i64 1,.string T18,.int .i64 1,.string T19,.int .i64 10,.string T20,.int .i64 6,.string T21,.int .i64 11,.string (⟨#[123,34,97,34,58,49,44]⟩ ++ T22.extract 1 119),.int .i64 11,.string ((⟨#[123,34,114,101,112,111,115,105,116,111,114,105,101,115,34,58,123]⟩ ++ ⟨#[34,114,34,58,91,34,117,34,93,44,34,115,34,58,91,93]⟩) ++ ⟨#[125,125]⟩),.int .i64 6,.string (T22 ++ ⟨#[49]⟩),.int .i64 11] = cs:=⟨_,rfl⟩
 have HR:Hid (∀ r,r < 25 → RefAt cs r):=by
  intro r hr
  rw [← hcs]
  match r,hr with
  | 0,_ => exact ⟨_,_,rfl,rfl,cn_0,by decide⟩
  | 1,_ => exact ⟨_,_,rfl,rfl,cn_1,by decide⟩
  | 2,_ => exact ⟨_,_,rfl,rfl,cn_2,by decide⟩
  | 3,_ => exact ⟨_,_,rfl,rfl,cn_3,by decide⟩
  | 4,_ => exact ⟨_,_,rfl,rfl,cn_4,by decide⟩
  | 5,_ => exact ⟨_,_,rfl,rfl,c5.1,c5.2⟩
  | 6,_ => exact ⟨_,_,rfl,rfl,c6.1,c6.2⟩
  | 7,_ => exact ⟨_,_,rfl,rfl,c7.1,c7.2⟩
  | 8,_ => exact ⟨_,_,rfl,rfl,c8.1,c8.2⟩
  | 9,_ => exact ⟨_,_,rfl,rfl,c9.1,c9.2⟩
  | 10,_ => exact ⟨_,_,rfl,rfl,c10.1,c10.2⟩
  | 11,_ => exact ⟨_,_,rfl,rfl,c11.1,c11.2⟩
  | 12,_ => exact ⟨_,_,rfl,rfl,c12.1,c12.2⟩
  | 13,_ => exact ⟨_,_,rfl,rfl,c13.1,c13.2⟩
  | 14,_ => exact ⟨_,_,rfl,rfl,c14.1,c14.2⟩
  | 15,_ => exact ⟨_,_,rfl,rfl,c15.1,c15.2⟩
  | 16,_ => exact ⟨_,_,rfl,rfl,c16.1,c16.2⟩
  | 17,_ => exact ⟨_,_,rfl,rfl,c17.1,c17.2⟩
  | 18,_ => exact ⟨_,_,rfl,rfl,c18.1,c18.2⟩
  | 19,_ => exact ⟨_,_,rfl,rfl,c19.1,c19.2⟩
  | 20,_ => exact ⟨_,_,rfl,rfl,c20.1,c20.2⟩
  | 21,_ => exact ⟨_,_,rfl,rfl,c21.1,c21.2⟩
  | 22,_ => exact ⟨_,_,rfl,rfl,c22.1,c22.2⟩
  | 23,_ => exact ⟨_,_,rfl,rfl,cq_23,by decide⟩
  | 24,_ => exact ⟨_,_,rfl,rfl,c24.1,c24.2⟩
  | r + 25,h => omega
 clear c5 c6 c7 c8 c9 c10 c11 c12 c13 c14 c15 c16 c17 c18 c19 c20 c21 c22 c24 hT5 hT6 hT7 hT8 hT9 hT10 hT11 hT12 hT13 hT14 hT15 hT16 hT17 hT18 hT19 hT20 hT21 hM11 hM12 hM13 hM14 hM15 hM16 hM17 hM18 hM19 hM20
 have HGG:=Lib.hid hG
 have HT22':=Lib.hid hT22
 clear hG hT22
 obtain ⟨TE,hTE⟩:∃ T:ByteArray,wholeT ⟨#[]⟩ ⟨#[34,114,34,58,91,34,117,34,93,44,34,115,34,58,91,93]⟩ = T:=⟨_,rfl⟩
 have HTE:Hid (∀ W,Calls Tryz.prog 15 #[.string ⟨#[]⟩,.string ⟨#[34,114,34,58,91,34,117,34,93,44,34,115,34,58,91,93]⟩] W fun e w' => e = .returned (.string TE) ∧ w' = W):=fun W => by rw [← hTE]; exact (whole25_any _ _ W (by decide) (by decide)).mono fun e w' h => ⟨h.1,h.2.symm⟩
 have HRTE:Hid (∀ Y,Below w.heap.size w Y → Calls Tryz.prog 17 #[.string TE] Y fun e w' => Below Y.heap.size Y w' ∧ ∃ a1 c1 a2 c2,e = .returned (.tuple #[.agg #[.slice a1 2 c1,.slice a2 0 c2],.int .i64 0])):=fun Y hY => by
  have h1:=cRead_any TE Y (by rw [← hTE]; exact of_decide_eq_true (by kernel_rfl)) (HEV.out Y hY)
  rw [(by rw [← hTE]; exact cq_empty:chartT TE.data.toList = .ok ⟨awRepos,[]⟩)] at h1
  exact h1.mono fun e w' hp => by
   obtain ⟨hb,a1,c1,a2,c2,he,-⟩:=mapPost_at hp (by decide) (by decide)
   exact ⟨hb,a1,c1,a2,c2,he⟩
 obtain ⟨MM,hMM⟩:∃ T:ByteArray,manyT G 15 = T:=⟨_,rfl⟩
 have zMM:MM.size = 1151:=by rw [← hMM]; exact many_size G 71 zG 15
 obtain ⟨RR,hRR⟩:∃ T:ByteArray,reposT 7 = T:=⟨_,rfl⟩
 have zRR:RR.size = 55:=by rw [← hRR]; exact repos_size 7
 obtain ⟨PP,hPP⟩:∃ T:ByteArray,pathsT 31 = T:=⟨_,rfl⟩
 have zPP:PP.size = 127:=by rw [← hPP]; exact paths_size 31
 obtain ⟨TM,hTM⟩:∃ T:ByteArray,wholeT MM ⟨#[34,114,34,58,91,34,117,34,93,44,34,115,34,58,91,93]⟩ = T:=⟨_,rfl⟩
 have HTM:Hid (∀ W,Calls Tryz.prog 15 #[.string MM,.string ⟨#[34,114,34,58,91,34,117,34,93,44,34,115,34,58,91,93]⟩] W fun e w' => e = .returned (.string TM) ∧ w' = W):=fun W => by rw [← hTM]; exact (whole25_any _ _ W (by rw [zMM]; decide) (by decide)).mono fun e w' h => ⟨h.1,h.2.symm⟩
 have zTM:TM.size ≤ 9223372036854775807:=by rw [← hTM]; unfold wholeT; simp only [ByteArray.size_append,zMM]; decide
 have HRTM:Hid (∀ Y,Below w.heap.size w Y → Calls Tryz.prog 17 #[.string TM] Y fun e w' => Below Y.heap.size Y w' ∧ ∃ a1 c1 a2 c2,e = .returned (.tuple #[.agg #[.slice a1 2 c1,.slice a2 16 c2],.int .i64 0])):=fun Y hY => by
  have h1:=cRead_any TM Y zTM (HEV.out Y hY)
  rw [(by rw [← hTM,← hMM,← HGG.out]; exact cq_many:chartT TM.data.toList = .ok ⟨awRepos,List.replicate 16 cnG⟩)] at h1
  exact h1.mono fun e w' hp => by
   obtain ⟨hb,a1,c1,a2,c2,he,-⟩:=mapPost_at hp (by decide) (by decide)
   exact ⟨hb,a1,c1,a2,c2,he⟩
 obtain ⟨TR,hTR⟩:∃ T:ByteArray,wholeT ⟨#[]⟩ RR = T:=⟨_,rfl⟩
 have HTR:Hid (∀ W,Calls Tryz.prog 15 #[.string ⟨#[]⟩,.string RR] W fun e w' => e = .returned (.string TR) ∧ w' = W):=fun W => by rw [← hTR]; exact (whole25_any _ _ W (by decide) (by rw [zRR]; decide)).mono fun e w' h => ⟨h.1,h.2.symm⟩
 have zTR:TR.size ≤ 9223372036854775807:=by rw [← hTR]; unfold wholeT; simp only [ByteArray.size_append,zRR]; decide
 have HRTR:Hid (∀ Y,Below w.heap.size w Y → Calls Tryz.prog 17 #[.string TR] Y fun e w' => Below Y.heap.size Y w' ∧ ∃ a1 c1 a2 c2,e = .returned (.tuple #[.agg #[.slice a1 8 c1,.slice a2 0 c2],.int .i64 0])):=fun Y hY => by
  have h1:=cRead_any TR Y zTR (HEV.out Y hY)
  rw [(by rw [← hTR,← hRR]; exact cq_repos:chartT TR.data.toList = .ok ⟨(List.range 8).map fun i => (⟨#[UInt8.ofNat (97 + i)]⟩,[]),[]⟩)] at h1
  exact h1.mono fun e w' hp => by
   obtain ⟨hb,a1,c1,a2,c2,he,-⟩:=mapPost_at hp (by decide) (by decide)
   exact ⟨hb,a1,c1,a2,c2,he⟩
 obtain ⟨MP1,hMP1⟩:∃ T:ByteArray,mappingT PP ⟨#[34,114,34]⟩ ⟨#[49]⟩ = T:=⟨_,rfl⟩
 have zMP1:MP1.size ≤ 1000000:=by rw [← hMP1]; unfold mappingT; simp only [ByteArray.size_append,zPP]; decide
 have HMP1:Hid (∀ W,Calls Tryz.prog 14 #[.string PP,.string ⟨#[34,114,34]⟩,.string ⟨#[49]⟩] W fun e w' => e = .returned (.string MP1) ∧ w' = W):=fun W => by rw [← hMP1]; exact (mapping25_any _ _ _ W (by rw [zPP]; decide) (by decide) (by decide)).mono fun e w' h => ⟨h.1,h.2.symm⟩
 obtain ⟨TP,hTP⟩:∃ T:ByteArray,wholeT MP1 ⟨#[34,114,34,58,91,34,117,34,93,44,34,115,34,58,91,93]⟩ = T:=⟨_,rfl⟩
 have HTP:Hid (∀ W,Calls Tryz.prog 15 #[.string MP1,.string ⟨#[34,114,34,58,91,34,117,34,93,44,34,115,34,58,91,93]⟩] W fun e w' => e = .returned (.string TP) ∧ w' = W):=fun W => by rw [← hTP]; exact (whole25_any _ _ W zMP1 (by decide)).mono fun e w' h => ⟨h.1,h.2.symm⟩
 have zTP:TP.size ≤ 9223372036854775807:=by rw [← hTP]; unfold wholeT; simp only [ByteArray.size_append]; exact (show 12 + MP1.size + 18 + 16 + 2 ≤ 9223372036854775807 by omega)
 have HRTP:Hid (∀ Y,Below w.heap.size w Y → Calls Tryz.prog 17 #[.string TP] Y fun e w' => Below Y.heap.size Y w' ∧ ∃ a1 c1 a2 c2,e = .returned (.tuple #[.agg #[.slice a1 2 c1,.slice a2 1 c2],.int .i64 0])):=fun Y hY => by
  have h1:=cRead_any TP Y zTP (HEV.out Y hY)
  rw [(by rw [← hTP,← hMP1,← hPP]; exact cq_paths:chartT TP.data.toList = .ok ⟨awRepos,[⟨List.replicate 32 ⟨#[97]⟩,[⟨#[114]⟩],true,1⟩]⟩)] at h1
  exact h1.mono fun e w' hp => by
   obtain ⟨hb,a1,c1,a2,c2,he,-⟩:=mapPost_at hp (by decide) (by decide)
   exact ⟨hb,a1,c1,a2,c2,he⟩
 obtain ⟨TM1,hTM1⟩:∃ T:ByteArray,wholeT ((MM ++ ⟨#[44]⟩) ++ G) ⟨#[34,114,34,58,91,34,117,34,93,44,34,115,34,58,91,93]⟩ = T:=⟨_,rfl⟩
 have HTM1:Hid (∀ W,Calls Tryz.prog 15 #[.string ((MM ++ ⟨#[44]⟩) ++ G),.string ⟨#[34,114,34,58,91,34,117,34,93,44,34,115,34,58,91,93]⟩] W fun e w' => e = .returned (.string TM1) ∧ w' = W):=fun W => by rw [← hTM1]; exact (whole25_any _ _ W (by rw [ByteArray.size_append,ByteArray.size_append,zMM,zG]; decide) (by decide)).mono fun e w' h => ⟨h.1,h.2.symm⟩
 have zTM1:TM1.size ≤ 9223372036854775807:=by rw [← hTM1]; unfold wholeT; simp only [ByteArray.size_append,zMM,zG]; decide
 have HFTM1:Hid (∀ Y,Below w.heap.size w Y → Calls Tryz.prog 16 #[.string TM1,.int .i64 5] Y fun e w' => e = .returned (.bool true) ∧ Below Y.heap.size Y w'):=fun Y hY => refused_any TM1 5 (by rw [← hTM1,← hMM,← HGG.out]; exact cq_many1) Y zTM1 (HEV.out Y hY)
 obtain ⟨TR1,hTR1⟩:∃ T:ByteArray,wholeT ⟨#[]⟩ (RR ++ ⟨#[44,34,122,34,58,91,93]⟩) = T:=⟨_,rfl⟩
 have HTR1:Hid (∀ W,Calls Tryz.prog 15 #[.string ⟨#[]⟩,.string (RR ++ ⟨#[44,34,122,34,58,91,93]⟩)] W fun e w' => e = .returned (.string TR1) ∧ w' = W):=fun W => by rw [← hTR1]; exact (whole25_any _ _ W (by decide) (by rw [ByteArray.size_append,zRR]; decide)).mono fun e w' h => ⟨h.1,h.2.symm⟩
 have zTR1:TR1.size ≤ 9223372036854775807:=by rw [← hTR1]; unfold wholeT; simp only [ByteArray.size_append,zRR]; decide
 have HFTR1:Hid (∀ Y,Below w.heap.size w Y → Calls Tryz.prog 16 #[.string TR1,.int .i64 5] Y fun e w' => e = .returned (.bool true) ∧ Below Y.heap.size Y w'):=fun Y hY => refused_any TR1 5 (by rw [← hTR1,← hRR]; exact cq_repos1) Y zTR1 (HEV.out Y hY)
 obtain ⟨MP2,hMP2⟩:∃ T:ByteArray,mappingT (PP ++ ⟨#[44,34,97,34]⟩) ⟨#[34,114,34]⟩ ⟨#[49]⟩ = T:=⟨_,rfl⟩
 have zMP2:MP2.size ≤ 1000000:=by rw [← hMP2]; unfold mappingT; simp only [ByteArray.size_append,zPP]; decide
 have HMP2:Hid (∀ W,Calls Tryz.prog 14 #[.string (PP ++ ⟨#[44,34,97,34]⟩),.string ⟨#[34,114,34]⟩,.string ⟨#[49]⟩] W fun e w' => e = .returned (.string MP2) ∧ w' = W):=fun W => by rw [← hMP2]; exact (mapping25_any _ _ _ W (by rw [ByteArray.size_append,zPP]; decide) (by decide) (by decide)).mono fun e w' h => ⟨h.1,h.2.symm⟩
 obtain ⟨TP1,hTP1⟩:∃ T:ByteArray,wholeT MP2 ⟨#[34,114,34,58,91,34,117,34,93,44,34,115,34,58,91,93]⟩ = T:=⟨_,rfl⟩
 have HTP1:Hid (∀ W,Calls Tryz.prog 15 #[.string MP2,.string ⟨#[34,114,34,58,91,34,117,34,93,44,34,115,34,58,91,93]⟩] W fun e w' => e = .returned (.string TP1) ∧ w' = W):=fun W => by rw [← hTP1]; exact (whole25_any _ _ W zMP2 (by decide)).mono fun e w' h => ⟨h.1,h.2.symm⟩
 have zTP1:TP1.size ≤ 9223372036854775807:=by rw [← hTP1]; unfold wholeT; simp only [ByteArray.size_append]; exact (show 12 + MP2.size + 18 + 16 + 2 ≤ 9223372036854775807 by omega)
 have HFTP1:Hid (∀ Y,Below w.heap.size w Y → Calls Tryz.prog 16 #[.string TP1,.int .i64 5] Y fun e w' => e = .returned (.bool true) ∧ Below Y.heap.size Y w'):=fun Y hY => refused_any TP1 5 (by rw [← hTP1,← hMP2,← hPP]; exact cq_paths1) Y zTP1 (HEV.out Y hY)
 have HMM:=Lib.hid hMM
 have HRR:=Lib.hid hRR
 have HPP:=Lib.hid hPP
 clear hMM hRR hPP hTE hTM hTR hTP hTM1 hTR1 hTP1 hMP1 hMP2 zTM zTR zTP zTM1 zTR1 zTP1 zMP1 zMP2
 have hw70:IntKind.i64.wrap 70 = 70:=by decide
 clear henv
 go_enter Tryz.func4,Tryz.ntmps4
 go_wp2_with fail
 refine (HAW.out _ (Below.refl _ _)).mono ?_
 rintro e w1 ⟨rfl,hb1⟩
 have HB1:=Lib.hid hb1
 clear hb1
 go_wp2_with fail
 refine (HG.out _).mono ?_
 rintro e _ ⟨rfl,hEq⟩
 obtain rfl:=hEq.symm
 go_wp2_with fail
 refine wp_region_any (by kernel_rfl) ?_
 refine wpAny_pure (i:=88) (v:=.int .i64 0) rfl (by kernel_rfl) (by kernel_rfl) (by kernel_rfl) (fun _ _ _ h => h) (Or.inl ⟨by rfl,fun Y => by go_simp⟩) ?_
 simp only [Act.put,List.setIfInBounds_toArray,List.set_cons_zero,List.set_cons_succ]
 refine wpAny_name (fun A0 hA0 => ?_)
 have hsz:A0.tmps.size = 314:=by rw [hA0]; rfl
 have y1:A0.tmps[1]? = some (.string ⟨#[34,114,34,58,91,34,117,34,93,44,34,115,34,58,91,93]⟩):=by rw [hA0]; rfl
 have y2:A0.tmps[2]? = some (.string G):=by rw [hA0]; rfl
 refine wpAny_puts cnPS5 86 [87] (by kernel_rfl) (by kernel_rfl) (of_decide_eq_true (by kernel_rfl)) (fun w' => Below w1.heap.size w1 w') (fun k v _ => v = cnE ⟨G,T5,T6,T7,T8,T9,T10,T11,T12,T13,T14,T15,T16,T17,T18,T19,T20,T21,T22,M11,M12,M13,M14,M15,M16,M17,M18,M19,M20⟩ k) (fun _ _ _ _ h _ => h) (bel_drew (Below.refl _ _)) ?_ ?_
 ·refine PutSteps.at rfl (fun vs Y hG hdep K hK => ?_) ?_
  ·generalize putsOf A0 cnPS5 vs = B at  hK ⊢
   go_simp
   exact hK.out _ _ _ rfl hG (Below.refl _ _) rfl
  refine PutSteps.at rfl (fun vs Y hG hdep K hK => ?_) ?_
  ·generalize putsOf A0 cnPS5 vs = B at  hK ⊢
   go_simp
   exact hK.out _ _ _ rfl hG (Below.refl _ _) rfl
  refine PutSteps.at rfl (fun vs Y hG hdep K hK => ?_) ?_
  ·generalize putsOf A0 cnPS5 vs = B at  hK ⊢
   go_simp
   exact hK.out _ _ _ rfl hG (Below.refl _ _) rfl
  refine PutSteps.at rfl (fun vs Y hG hdep K hK => ?_) ?_
  ·generalize putsOf A0 cnPS5 vs = B at  hK ⊢
   go_simp
   exact hK.out _ _ _ rfl hG (Below.refl _ _) rfl
  refine PutSteps.at rfl (fun vs Y hG hdep K hK => ?_) ?_
  ·generalize putsOf A0 cnPS5 vs = B at  hK ⊢
   go_simp
   exact hK.out _ _ _ rfl hG (Below.refl _ _) rfl
  refine PutSteps.at rfl (fun vs Y hG hdep K hK => ?_) ?_
  ·generalize putsOf A0 cnPS5 vs = B at  hK ⊢
   go_simp
   refine (HT5.out _).mono ?_
   rintro e w4 ⟨rfl,hEq⟩
   obtain rfl:=hEq.symm
   exact hK.out _ _ _ rfl hG (Below.refl _ _) rfl
  refine PutSteps.at rfl (fun vs Y hG hdep K hK => ?_) ?_
  ·have e0:vs 5 = .string T5:=hdep 5 rfl (by kernel_rfl)
   have x0:=putsOf_get (vs:=vs) (ps:=cnPS5) (a:=A0) 38 5 (by kernel_rfl) hsz (by kernel_rfl)
   rw [e0] at x0
   generalize putsOf A0 cnPS5 vs = B at x0 hK ⊢
   go_simp
   exact hK.out _ _ _ rfl hG (Below.refl _ _) rfl
  refine PutSteps.at rfl (fun vs Y hG hdep K hK => ?_) ?_
  ·generalize putsOf A0 cnPS5 vs = B at  hK ⊢
   go_simp
   refine (HT6.out _).mono ?_
   rintro e w4 ⟨rfl,hEq⟩
   obtain rfl:=hEq.symm
   exact hK.out _ _ _ rfl hG (Below.refl _ _) rfl
  refine PutSteps.at rfl (fun vs Y hG hdep K hK => ?_) ?_
  ·have e0:vs 7 = .string T6:=hdep 7 rfl (by kernel_rfl)
   have x0:=putsOf_get (vs:=vs) (ps:=cnPS5) (a:=A0) 40 7 (by kernel_rfl) hsz (by kernel_rfl)
   rw [e0] at x0
   generalize putsOf A0 cnPS5 vs = B at x0 hK ⊢
   go_simp
   exact hK.out _ _ _ rfl hG (Below.refl _ _) rfl
  refine PutSteps.at rfl (fun vs Y hG hdep K hK => ?_) ?_
  ·generalize putsOf A0 cnPS5 vs = B at  hK ⊢
   go_simp
   refine (HT7.out _).mono ?_
   rintro e w4 ⟨rfl,hEq⟩
   obtain rfl:=hEq.symm
   exact hK.out _ _ _ rfl hG (Below.refl _ _) rfl
  refine PutSteps.at rfl (fun vs Y hG hdep K hK => ?_) ?_
  ·have e0:vs 9 = .string T7:=hdep 9 rfl (by kernel_rfl)
   have x0:=putsOf_get (vs:=vs) (ps:=cnPS5) (a:=A0) 42 9 (by kernel_rfl) hsz (by kernel_rfl)
   rw [e0] at x0
   generalize putsOf A0 cnPS5 vs = B at x0 hK ⊢
   go_simp
   exact hK.out _ _ _ rfl hG (Below.refl _ _) rfl
  refine PutSteps.at rfl (fun vs Y hG hdep K hK => ?_) ?_
  ·generalize putsOf A0 cnPS5 vs = B at  hK ⊢
   go_simp
   refine (HT8.out _).mono ?_
   rintro e w4 ⟨rfl,hEq⟩
   obtain rfl:=hEq.symm
   exact hK.out _ _ _ rfl hG (Below.refl _ _) rfl
  refine PutSteps.at rfl (fun vs Y hG hdep K hK => ?_) ?_
  ·have e0:vs 11 = .string T8:=hdep 11 rfl (by kernel_rfl)
   have x0:=putsOf_get (vs:=vs) (ps:=cnPS5) (a:=A0) 44 11 (by kernel_rfl) hsz (by kernel_rfl)
   rw [e0] at x0
   generalize putsOf A0 cnPS5 vs = B at x0 hK ⊢
   go_simp
   exact hK.out _ _ _ rfl hG (Below.refl _ _) rfl
  refine PutSteps.at rfl (fun vs Y hG hdep K hK => ?_) ?_
  ·have x0:=putsOf_old (vs:=vs) (s:=1) cnPS5 A0 (by kernel_rfl)
   rw [y1] at x0
   generalize putsOf A0 cnPS5 vs = B at x0 hK ⊢
   go_simp
   exact hK.out _ _ _ rfl hG (Below.refl _ _) rfl
  refine PutSteps.at rfl (fun vs Y hG hdep K hK => ?_) ?_
  ·have e0:vs 13 = .string ⟨#[34,114,34,58,91,34,117,34,93,44,34,115,34,58,91,93]⟩:=hdep 13 rfl (by kernel_rfl)
   have x0:=putsOf_get (vs:=vs) (ps:=cnPS5) (a:=A0) 46 13 (by kernel_rfl) hsz (by kernel_rfl)
   rw [e0] at x0
   generalize putsOf A0 cnPS5 vs = B at x0 hK ⊢
   go_simp
   refine (HT9.out _).mono ?_
   rintro e w4 ⟨rfl,hEq⟩
   obtain rfl:=hEq.symm
   exact hK.out _ _ _ rfl hG (Below.refl _ _) rfl
  refine PutSteps.at rfl (fun vs Y hG hdep K hK => ?_) ?_
  ·have e0:vs 14 = .string T9:=hdep 14 rfl (by kernel_rfl)
   have x0:=putsOf_get (vs:=vs) (ps:=cnPS5) (a:=A0) 47 14 (by kernel_rfl) hsz (by kernel_rfl)
   rw [e0] at x0
   generalize putsOf A0 cnPS5 vs = B at x0 hK ⊢
   go_simp
   exact hK.out _ _ _ rfl hG (Below.refl _ _) rfl
  refine PutSteps.at rfl (fun vs Y hG hdep K hK => ?_) ?_
  ·have x0:=putsOf_old (vs:=vs) (s:=1) cnPS5 A0 (by kernel_rfl)
   rw [y1] at x0
   generalize putsOf A0 cnPS5 vs = B at x0 hK ⊢
   go_simp
   exact hK.out _ _ _ rfl hG (Below.refl _ _) rfl
  refine PutSteps.at rfl (fun vs Y hG hdep K hK => ?_) ?_
  ·have e0:vs 16 = .string ⟨#[34,114,34,58,91,34,117,34,93,44,34,115,34,58,91,93]⟩:=hdep 16 rfl (by kernel_rfl)
   have x0:=putsOf_get (vs:=vs) (ps:=cnPS5) (a:=A0) 49 16 (by kernel_rfl) hsz (by kernel_rfl)
   rw [e0] at x0
   generalize putsOf A0 cnPS5 vs = B at x0 hK ⊢
   go_simp
   refine (HT10.out _).mono ?_
   rintro e w4 ⟨rfl,hEq⟩
   obtain rfl:=hEq.symm
   exact hK.out _ _ _ rfl hG (Below.refl _ _) rfl
  refine PutSteps.at rfl (fun vs Y hG hdep K hK => ?_) ?_
  ·have e0:vs 17 = .string T10:=hdep 17 rfl (by kernel_rfl)
   have x0:=putsOf_get (vs:=vs) (ps:=cnPS5) (a:=A0) 50 17 (by kernel_rfl) hsz (by kernel_rfl)
   rw [e0] at x0
   generalize putsOf A0 cnPS5 vs = B at x0 hK ⊢
   go_simp
   exact hK.out _ _ _ rfl hG (Below.refl _ _) rfl
  refine PutSteps.at rfl (fun vs Y hG hdep K hK => ?_) ?_
  ·generalize putsOf A0 cnPS5 vs = B at  hK ⊢
   go_simp
   refine (HM11.out _).mono ?_
   rintro e w4 ⟨rfl,hEq⟩
   obtain rfl:=hEq.symm
   exact hK.out _ _ _ rfl hG (Below.refl _ _) rfl
  refine PutSteps.at rfl (fun vs Y hG hdep K hK => ?_) ?_
  ·have x0:=putsOf_old (vs:=vs) (s:=1) cnPS5 A0 (by kernel_rfl)
   rw [y1] at x0
   generalize putsOf A0 cnPS5 vs = B at x0 hK ⊢
   go_simp
   exact hK.out _ _ _ rfl hG (Below.refl _ _) rfl
  refine PutSteps.at rfl (fun vs Y hG hdep K hK => ?_) ?_
  ·have e0:vs 19 = .string M11:=hdep 19 rfl (by kernel_rfl)
   have x0:=putsOf_get (vs:=vs) (ps:=cnPS5) (a:=A0) 52 19 (by kernel_rfl) hsz (by kernel_rfl)
   rw [e0] at x0
   have e1:vs 20 = .string ⟨#[34,114,34,58,91,34,117,34,93,44,34,115,34,58,91,93]⟩:=hdep 20 rfl (by kernel_rfl)
   have x1:=putsOf_get (vs:=vs) (ps:=cnPS5) (a:=A0) 53 20 (by kernel_rfl) hsz (by kernel_rfl)
   rw [e1] at x1
   generalize putsOf A0 cnPS5 vs = B at x0 x1 hK ⊢
   go_simp
   refine (HT11.out _).mono ?_
   rintro e w4 ⟨rfl,hEq⟩
   obtain rfl:=hEq.symm
   exact hK.out _ _ _ rfl hG (Below.refl _ _) rfl
  refine PutSteps.at rfl (fun vs Y hG hdep K hK => ?_) ?_
  ·have e0:vs 21 = .string T11:=hdep 21 rfl (by kernel_rfl)
   have x0:=putsOf_get (vs:=vs) (ps:=cnPS5) (a:=A0) 54 21 (by kernel_rfl) hsz (by kernel_rfl)
   rw [e0] at x0
   generalize putsOf A0 cnPS5 vs = B at x0 hK ⊢
   go_simp
   exact hK.out _ _ _ rfl hG (Below.refl _ _) rfl
  refine PutSteps.at rfl (fun vs Y hG hdep K hK => ?_) ?_
  ·generalize putsOf A0 cnPS5 vs = B at  hK ⊢
   go_simp
   refine (HM12.out _).mono ?_
   rintro e w4 ⟨rfl,hEq⟩
   obtain rfl:=hEq.symm
   exact hK.out _ _ _ rfl hG (Below.refl _ _) rfl
  refine PutSteps.at rfl (fun vs Y hG hdep K hK => ?_) ?_
  ·have x0:=putsOf_old (vs:=vs) (s:=1) cnPS5 A0 (by kernel_rfl)
   rw [y1] at x0
   generalize putsOf A0 cnPS5 vs = B at x0 hK ⊢
   go_simp
   exact hK.out _ _ _ rfl hG (Below.refl _ _) rfl
  refine PutSteps.at rfl (fun vs Y hG hdep K hK => ?_) ?_
  ·have e0:vs 23 = .string M12:=hdep 23 rfl (by kernel_rfl)
   have x0:=putsOf_get (vs:=vs) (ps:=cnPS5) (a:=A0) 56 23 (by kernel_rfl) hsz (by kernel_rfl)
   rw [e0] at x0
   have e1:vs 24 = .string ⟨#[34,114,34,58,91,34,117,34,93,44,34,115,34,58,91,93]⟩:=hdep 24 rfl (by kernel_rfl)
   have x1:=putsOf_get (vs:=vs) (ps:=cnPS5) (a:=A0) 57 24 (by kernel_rfl) hsz (by kernel_rfl)
   rw [e1] at x1
   generalize putsOf A0 cnPS5 vs = B at x0 x1 hK ⊢
   go_simp
   refine (HT12.out _).mono ?_
   rintro e w4 ⟨rfl,hEq⟩
   obtain rfl:=hEq.symm
   exact hK.out _ _ _ rfl hG (Below.refl _ _) rfl
  refine PutSteps.at rfl (fun vs Y hG hdep K hK => ?_) ?_
  ·have e0:vs 25 = .string T12:=hdep 25 rfl (by kernel_rfl)
   have x0:=putsOf_get (vs:=vs) (ps:=cnPS5) (a:=A0) 58 25 (by kernel_rfl) hsz (by kernel_rfl)
   rw [e0] at x0
   generalize putsOf A0 cnPS5 vs = B at x0 hK ⊢
   go_simp
   exact hK.out _ _ _ rfl hG (Below.refl _ _) rfl
  refine PutSteps.at rfl (fun vs Y hG hdep K hK => ?_) ?_
  ·generalize putsOf A0 cnPS5 vs = B at  hK ⊢
   go_simp
   refine (HM13.out _).mono ?_
   rintro e w4 ⟨rfl,hEq⟩
   obtain rfl:=hEq.symm
   exact hK.out _ _ _ rfl hG (Below.refl _ _) rfl
  refine PutSteps.at rfl (fun vs Y hG hdep K hK => ?_) ?_
  ·have x0:=putsOf_old (vs:=vs) (s:=1) cnPS5 A0 (by kernel_rfl)
   rw [y1] at x0
   generalize putsOf A0 cnPS5 vs = B at x0 hK ⊢
   go_simp
   exact hK.out _ _ _ rfl hG (Below.refl _ _) rfl
  refine PutSteps.at rfl (fun vs Y hG hdep K hK => ?_) ?_
  ·have e0:vs 27 = .string M13:=hdep 27 rfl (by kernel_rfl)
   have x0:=putsOf_get (vs:=vs) (ps:=cnPS5) (a:=A0) 60 27 (by kernel_rfl) hsz (by kernel_rfl)
   rw [e0] at x0
   have e1:vs 28 = .string ⟨#[34,114,34,58,91,34,117,34,93,44,34,115,34,58,91,93]⟩:=hdep 28 rfl (by kernel_rfl)
   have x1:=putsOf_get (vs:=vs) (ps:=cnPS5) (a:=A0) 61 28 (by kernel_rfl) hsz (by kernel_rfl)
   rw [e1] at x1
   generalize putsOf A0 cnPS5 vs = B at x0 x1 hK ⊢
   go_simp
   refine (HT13.out _).mono ?_
   rintro e w4 ⟨rfl,hEq⟩
   obtain rfl:=hEq.symm
   exact hK.out _ _ _ rfl hG (Below.refl _ _) rfl
  refine PutSteps.at rfl (fun vs Y hG hdep K hK => ?_) ?_
  ·have e0:vs 29 = .string T13:=hdep 29 rfl (by kernel_rfl)
   have x0:=putsOf_get (vs:=vs) (ps:=cnPS5) (a:=A0) 62 29 (by kernel_rfl) hsz (by kernel_rfl)
   rw [e0] at x0
   generalize putsOf A0 cnPS5 vs = B at x0 hK ⊢
   go_simp
   exact hK.out _ _ _ rfl hG (Below.refl _ _) rfl
  refine PutSteps.at rfl (fun vs Y hG hdep K hK => ?_) ?_
  ·generalize putsOf A0 cnPS5 vs = B at  hK ⊢
   go_simp
   refine (HM14.out _).mono ?_
   rintro e w4 ⟨rfl,hEq⟩
   obtain rfl:=hEq.symm
   exact hK.out _ _ _ rfl hG (Below.refl _ _) rfl
  refine PutSteps.at rfl (fun vs Y hG hdep K hK => ?_) ?_
  ·have x0:=putsOf_old (vs:=vs) (s:=1) cnPS5 A0 (by kernel_rfl)
   rw [y1] at x0
   generalize putsOf A0 cnPS5 vs = B at x0 hK ⊢
   go_simp
   exact hK.out _ _ _ rfl hG (Below.refl _ _) rfl
  refine PutSteps.at rfl (fun vs Y hG hdep K hK => ?_) ?_
  ·have e0:vs 31 = .string M14:=hdep 31 rfl (by kernel_rfl)
   have x0:=putsOf_get (vs:=vs) (ps:=cnPS5) (a:=A0) 64 31 (by kernel_rfl) hsz (by kernel_rfl)
   rw [e0] at x0
   have e1:vs 32 = .string ⟨#[34,114,34,58,91,34,117,34,93,44,34,115,34,58,91,93]⟩:=hdep 32 rfl (by kernel_rfl)
   have x1:=putsOf_get (vs:=vs) (ps:=cnPS5) (a:=A0) 65 32 (by kernel_rfl) hsz (by kernel_rfl)
   rw [e1] at x1
   generalize putsOf A0 cnPS5 vs = B at x0 x1 hK ⊢
   go_simp
   refine (HT14.out _).mono ?_
   rintro e w4 ⟨rfl,hEq⟩
   obtain rfl:=hEq.symm
   exact hK.out _ _ _ rfl hG (Below.refl _ _) rfl
  refine PutSteps.at rfl (fun vs Y hG hdep K hK => ?_) ?_
  ·have e0:vs 33 = .string T14:=hdep 33 rfl (by kernel_rfl)
   have x0:=putsOf_get (vs:=vs) (ps:=cnPS5) (a:=A0) 66 33 (by kernel_rfl) hsz (by kernel_rfl)
   rw [e0] at x0
   generalize putsOf A0 cnPS5 vs = B at x0 hK ⊢
   go_simp
   exact hK.out _ _ _ rfl hG (Below.refl _ _) rfl
  refine PutSteps.at rfl (fun vs Y hG hdep K hK => ?_) ?_
  ·generalize putsOf A0 cnPS5 vs = B at  hK ⊢
   go_simp
   refine (HM15.out _).mono ?_
   rintro e w4 ⟨rfl,hEq⟩
   obtain rfl:=hEq.symm
   exact hK.out _ _ _ rfl hG (Below.refl _ _) rfl
  refine PutSteps.at rfl (fun vs Y hG hdep K hK => ?_) ?_
  ·have x0:=putsOf_old (vs:=vs) (s:=1) cnPS5 A0 (by kernel_rfl)
   rw [y1] at x0
   generalize putsOf A0 cnPS5 vs = B at x0 hK ⊢
   go_simp
   exact hK.out _ _ _ rfl hG (Below.refl _ _) rfl
  refine PutSteps.at rfl (fun vs Y hG hdep K hK => ?_) ?_
  ·have e0:vs 35 = .string M15:=hdep 35 rfl (by kernel_rfl)
   have x0:=putsOf_get (vs:=vs) (ps:=cnPS5) (a:=A0) 68 35 (by kernel_rfl) hsz (by kernel_rfl)
   rw [e0] at x0
   have e1:vs 36 = .string ⟨#[34,114,34,58,91,34,117,34,93,44,34,115,34,58,91,93]⟩:=hdep 36 rfl (by kernel_rfl)
   have x1:=putsOf_get (vs:=vs) (ps:=cnPS5) (a:=A0) 69 36 (by kernel_rfl) hsz (by kernel_rfl)
   rw [e1] at x1
   generalize putsOf A0 cnPS5 vs = B at x0 x1 hK ⊢
   go_simp
   refine (HT15.out _).mono ?_
   rintro e w4 ⟨rfl,hEq⟩
   obtain rfl:=hEq.symm
   exact hK.out _ _ _ rfl hG (Below.refl _ _) rfl
  refine PutSteps.at rfl (fun vs Y hG hdep K hK => ?_) ?_
  ·have e0:vs 37 = .string T15:=hdep 37 rfl (by kernel_rfl)
   have x0:=putsOf_get (vs:=vs) (ps:=cnPS5) (a:=A0) 70 37 (by kernel_rfl) hsz (by kernel_rfl)
   rw [e0] at x0
   generalize putsOf A0 cnPS5 vs = B at x0 hK ⊢
   go_simp
   exact hK.out _ _ _ rfl hG (Below.refl _ _) rfl
  refine PutSteps.at rfl (fun vs Y hG hdep K hK => ?_) ?_
  ·generalize putsOf A0 cnPS5 vs = B at  hK ⊢
   go_simp
   refine (HM16.out _).mono ?_
   rintro e w4 ⟨rfl,hEq⟩
   obtain rfl:=hEq.symm
   exact hK.out _ _ _ rfl hG (Below.refl _ _) rfl
  refine PutSteps.at rfl (fun vs Y hG hdep K hK => ?_) ?_
  ·have x0:=putsOf_old (vs:=vs) (s:=1) cnPS5 A0 (by kernel_rfl)
   rw [y1] at x0
   generalize putsOf A0 cnPS5 vs = B at x0 hK ⊢
   go_simp
   exact hK.out _ _ _ rfl hG (Below.refl _ _) rfl
  refine PutSteps.at rfl (fun vs Y hG hdep K hK => ?_) ?_
  ·have e0:vs 39 = .string M16:=hdep 39 rfl (by kernel_rfl)
   have x0:=putsOf_get (vs:=vs) (ps:=cnPS5) (a:=A0) 72 39 (by kernel_rfl) hsz (by kernel_rfl)
   rw [e0] at x0
   have e1:vs 40 = .string ⟨#[34,114,34,58,91,34,117,34,93,44,34,115,34,58,91,93]⟩:=hdep 40 rfl (by kernel_rfl)
   have x1:=putsOf_get (vs:=vs) (ps:=cnPS5) (a:=A0) 73 40 (by kernel_rfl) hsz (by kernel_rfl)
   rw [e1] at x1
   generalize putsOf A0 cnPS5 vs = B at x0 x1 hK ⊢
   go_simp
   refine (HT16.out _).mono ?_
   rintro e w4 ⟨rfl,hEq⟩
   obtain rfl:=hEq.symm
   exact hK.out _ _ _ rfl hG (Below.refl _ _) rfl
  refine PutSteps.at rfl (fun vs Y hG hdep K hK => ?_) ?_
  ·have e0:vs 41 = .string T16:=hdep 41 rfl (by kernel_rfl)
   have x0:=putsOf_get (vs:=vs) (ps:=cnPS5) (a:=A0) 74 41 (by kernel_rfl) hsz (by kernel_rfl)
   rw [e0] at x0
   generalize putsOf A0 cnPS5 vs = B at x0 hK ⊢
   go_simp
   exact hK.out _ _ _ rfl hG (Below.refl _ _) rfl
  refine PutSteps.at rfl (fun vs Y hG hdep K hK => ?_) ?_
  ·generalize putsOf A0 cnPS5 vs = B at  hK ⊢
   go_simp
   refine (HM17.out _).mono ?_
   rintro e w4 ⟨rfl,hEq⟩
   obtain rfl:=hEq.symm
   exact hK.out _ _ _ rfl hG (Below.refl _ _) rfl
  refine PutSteps.at rfl (fun vs Y hG hdep K hK => ?_) ?_
  ·have x0:=putsOf_old (vs:=vs) (s:=1) cnPS5 A0 (by kernel_rfl)
   rw [y1] at x0
   generalize putsOf A0 cnPS5 vs = B at x0 hK ⊢
   go_simp
   exact hK.out _ _ _ rfl hG (Below.refl _ _) rfl
  refine PutSteps.at rfl (fun vs Y hG hdep K hK => ?_) ?_
  ·have e0:vs 43 = .string M17:=hdep 43 rfl (by kernel_rfl)
   have x0:=putsOf_get (vs:=vs) (ps:=cnPS5) (a:=A0) 76 43 (by kernel_rfl) hsz (by kernel_rfl)
   rw [e0] at x0
   have e1:vs 44 = .string ⟨#[34,114,34,58,91,34,117,34,93,44,34,115,34,58,91,93]⟩:=hdep 44 rfl (by kernel_rfl)
   have x1:=putsOf_get (vs:=vs) (ps:=cnPS5) (a:=A0) 77 44 (by kernel_rfl) hsz (by kernel_rfl)
   rw [e1] at x1
   generalize putsOf A0 cnPS5 vs = B at x0 x1 hK ⊢
   go_simp
   refine (HT17.out _).mono ?_
   rintro e w4 ⟨rfl,hEq⟩
   obtain rfl:=hEq.symm
   exact hK.out _ _ _ rfl hG (Below.refl _ _) rfl
  refine PutSteps.at rfl (fun vs Y hG hdep K hK => ?_) ?_
  ·have e0:vs 45 = .string T17:=hdep 45 rfl (by kernel_rfl)
   have x0:=putsOf_get (vs:=vs) (ps:=cnPS5) (a:=A0) 78 45 (by kernel_rfl) hsz (by kernel_rfl)
   rw [e0] at x0
   generalize putsOf A0 cnPS5 vs = B at x0 hK ⊢
   go_simp
   exact hK.out _ _ _ rfl hG (Below.refl _ _) rfl
  refine PutSteps.at rfl (fun vs Y hG hdep K hK => ?_) ?_
  ·generalize putsOf A0 cnPS5 vs = B at  hK ⊢
   go_simp
   refine (HM18.out _).mono ?_
   rintro e w4 ⟨rfl,hEq⟩
   obtain rfl:=hEq.symm
   exact hK.out _ _ _ rfl hG (Below.refl _ _) rfl
  refine PutSteps.at rfl (fun vs Y hG hdep K hK => ?_) ?_
  ·have x0:=putsOf_old (vs:=vs) (s:=1) cnPS5 A0 (by kernel_rfl)
   rw [y1] at x0
   generalize putsOf A0 cnPS5 vs = B at x0 hK ⊢
   go_simp
   exact hK.out _ _ _ rfl hG (Below.refl _ _) rfl
  refine PutSteps.at rfl (fun vs Y hG hdep K hK => ?_) ?_
  ·have e0:vs 47 = .string M18:=hdep 47 rfl (by kernel_rfl)
   have x0:=putsOf_get (vs:=vs) (ps:=cnPS5) (a:=A0) 80 47 (by kernel_rfl) hsz (by kernel_rfl)
   rw [e0] at x0
   have e1:vs 48 = .string ⟨#[34,114,34,58,91,34,117,34,93,44,34,115,34,58,91,93]⟩:=hdep 48 rfl (by kernel_rfl)
   have x1:=putsOf_get (vs:=vs) (ps:=cnPS5) (a:=A0) 81 48 (by kernel_rfl) hsz (by kernel_rfl)
   rw [e1] at x1
   generalize putsOf A0 cnPS5 vs = B at x0 x1 hK ⊢
   go_simp
   refine (HT18.out _).mono ?_
   rintro e w4 ⟨rfl,hEq⟩
   obtain rfl:=hEq.symm
   exact hK.out _ _ _ rfl hG (Below.refl _ _) rfl
  refine PutSteps.at rfl (fun vs Y hG hdep K hK => ?_) ?_
  ·have e0:vs 49 = .string T18:=hdep 49 rfl (by kernel_rfl)
   have x0:=putsOf_get (vs:=vs) (ps:=cnPS5) (a:=A0) 82 49 (by kernel_rfl) hsz (by kernel_rfl)
   rw [e0] at x0
   generalize putsOf A0 cnPS5 vs = B at x0 hK ⊢
   go_simp
   exact hK.out _ _ _ rfl hG (Below.refl _ _) rfl
  refine PutSteps.at rfl (fun vs Y hG hdep K hK => ?_) ?_
  ·generalize putsOf A0 cnPS5 vs = B at  hK ⊢
   go_simp
   refine (HM19.out _).mono ?_
   rintro e w4 ⟨rfl,hEq⟩
   obtain rfl:=hEq.symm
   exact hK.out _ _ _ rfl hG (Below.refl _ _) rfl
  refine PutSteps.at rfl (fun vs Y hG hdep K hK => ?_) ?_
  ·have x0:=putsOf_old (vs:=vs) (s:=1) cnPS5 A0 (by kernel_rfl)
   rw [y1] at x0
   generalize putsOf A0 cnPS5 vs = B at x0 hK ⊢
   go_simp
   exact hK.out _ _ _ rfl hG (Below.refl _ _) rfl
  refine PutSteps.at rfl (fun vs Y hG hdep K hK => ?_) ?_
  ·have e0:vs 51 = .string M19:=hdep 51 rfl (by kernel_rfl)
   have x0:=putsOf_get (vs:=vs) (ps:=cnPS5) (a:=A0) 84 51 (by kernel_rfl) hsz (by kernel_rfl)
   rw [e0] at x0
   have e1:vs 52 = .string ⟨#[34,114,34,58,91,34,117,34,93,44,34,115,34,58,91,93]⟩:=hdep 52 rfl (by kernel_rfl)
   have x1:=putsOf_get (vs:=vs) (ps:=cnPS5) (a:=A0) 85 52 (by kernel_rfl) hsz (by kernel_rfl)
   rw [e1] at x1
   generalize putsOf A0 cnPS5 vs = B at x0 x1 hK ⊢
   go_simp
   refine (HT19.out _).mono ?_
   rintro e w4 ⟨rfl,hEq⟩
   obtain rfl:=hEq.symm
   exact hK.out _ _ _ rfl hG (Below.refl _ _) rfl
  refine PutSteps.at rfl (fun vs Y hG hdep K hK => ?_) ?_
  ·have e0:vs 53 = .string T19:=hdep 53 rfl (by kernel_rfl)
   have x0:=putsOf_get (vs:=vs) (ps:=cnPS5) (a:=A0) 86 53 (by kernel_rfl) hsz (by kernel_rfl)
   rw [e0] at x0
   generalize putsOf A0 cnPS5 vs = B at x0 hK ⊢
   go_simp
   exact hK.out _ _ _ rfl hG (Below.refl _ _) rfl
  refine PutSteps.at rfl (fun vs Y hG hdep K hK => ?_) ?_
  ·have x0:=putsOf_old (vs:=vs) (s:=2) cnPS5 A0 (by kernel_rfl)
   rw [y2] at x0
   generalize putsOf A0 cnPS5 vs = B at x0 hK ⊢
   go_simp
   exact hK.out _ _ _ rfl hG (Below.refl _ _) rfl
  refine PutSteps.at rfl (fun vs Y hG hdep K hK => ?_) ?_
  ·have e0:vs 55 = .string G:=hdep 55 rfl (by kernel_rfl)
   have x0:=putsOf_get (vs:=vs) (ps:=cnPS5) (a:=A0) 88 55 (by kernel_rfl) hsz (by kernel_rfl)
   rw [e0] at x0
   generalize putsOf A0 cnPS5 vs = B at x0 hK ⊢
   go_simp
   exact hK.out _ _ _ rfl hG (Below.refl _ _) rfl
  refine PutSteps.at rfl (fun vs Y hG hdep K hK => ?_) ?_
  ·generalize putsOf A0 cnPS5 vs = B at  hK ⊢
   go_simp
   refine (HM20.out _).mono ?_
   rintro e w4 ⟨rfl,hEq⟩
   obtain rfl:=hEq.symm
   exact hK.out _ _ _ rfl hG (Below.refl _ _) rfl
  refine PutSteps.at rfl (fun vs Y hG hdep K hK => ?_) ?_
  ·have e0:vs 56 = .string (G ++ ⟨#[44]⟩):=hdep 56 rfl (by kernel_rfl)
   have x0:=putsOf_get (vs:=vs) (ps:=cnPS5) (a:=A0) 89 56 (by kernel_rfl) hsz (by kernel_rfl)
   rw [e0] at x0
   have e1:vs 57 = .string M20:=hdep 57 rfl (by kernel_rfl)
   have x1:=putsOf_get (vs:=vs) (ps:=cnPS5) (a:=A0) 90 57 (by kernel_rfl) hsz (by kernel_rfl)
   rw [e1] at x1
   generalize putsOf A0 cnPS5 vs = B at x0 x1 hK ⊢
   go_simp
   exact hK.out _ _ _ rfl hG (Below.refl _ _) rfl
  refine PutSteps.at rfl (fun vs Y hG hdep K hK => ?_) ?_
  ·have x0:=putsOf_old (vs:=vs) (s:=1) cnPS5 A0 (by kernel_rfl)
   rw [y1] at x0
   generalize putsOf A0 cnPS5 vs = B at x0 hK ⊢
   go_simp
   exact hK.out _ _ _ rfl hG (Below.refl _ _) rfl
  refine PutSteps.at rfl (fun vs Y hG hdep K hK => ?_) ?_
  ·have e0:vs 58 = .string ((G ++ ⟨#[44]⟩) ++ M20):=hdep 58 rfl (by kernel_rfl)
   have x0:=putsOf_get (vs:=vs) (ps:=cnPS5) (a:=A0) 91 58 (by kernel_rfl) hsz (by kernel_rfl)
   rw [e0] at x0
   have e1:vs 59 = .string ⟨#[34,114,34,58,91,34,117,34,93,44,34,115,34,58,91,93]⟩:=hdep 59 rfl (by kernel_rfl)
   have x1:=putsOf_get (vs:=vs) (ps:=cnPS5) (a:=A0) 92 59 (by kernel_rfl) hsz (by kernel_rfl)
   rw [e1] at x1
   generalize putsOf A0 cnPS5 vs = B at x0 x1 hK ⊢
   go_simp
   refine (HT20.out _).mono ?_
   rintro e w4 ⟨rfl,hEq⟩
   obtain rfl:=hEq.symm
   exact hK.out _ _ _ rfl hG (Below.refl _ _) rfl
  refine PutSteps.at rfl (fun vs Y hG hdep K hK => ?_) ?_
  ·have e0:vs 60 = .string T20:=hdep 60 rfl (by kernel_rfl)
   have x0:=putsOf_get (vs:=vs) (ps:=cnPS5) (a:=A0) 93 60 (by kernel_rfl) hsz (by kernel_rfl)
   rw [e0] at x0
   generalize putsOf A0 cnPS5 vs = B at x0 hK ⊢
   go_simp
   exact hK.out _ _ _ rfl hG (Below.refl _ _) rfl
  refine PutSteps.at rfl (fun vs Y hG hdep K hK => ?_) ?_
  ·have x0:=putsOf_old (vs:=vs) (s:=2) cnPS5 A0 (by kernel_rfl)
   rw [y2] at x0
   generalize putsOf A0 cnPS5 vs = B at x0 hK ⊢
   go_simp
   exact hK.out _ _ _ rfl hG (Below.refl _ _) rfl
  refine PutSteps.at rfl (fun vs Y hG hdep K hK => ?_) ?_
  ·have x0:=putsOf_old (vs:=vs) (s:=2) cnPS5 A0 (by kernel_rfl)
   rw [y2] at x0
   generalize putsOf A0 cnPS5 vs = B at x0 hK ⊢
   go_simp
   exact hK.out _ _ _ rfl hG (Below.refl _ _) rfl
  refine PutSteps.at rfl (fun vs Y hG hdep K hK => ?_) ?_
  ·have e0:vs 63 = .string G:=hdep 63 rfl (by kernel_rfl)
   have x0:=putsOf_get (vs:=vs) (ps:=cnPS5) (a:=A0) 96 63 (by kernel_rfl) hsz (by kernel_rfl)
   rw [e0] at x0
   generalize putsOf A0 cnPS5 vs = B at x0 hK ⊢
   go_simp
   exact hK.out _ _ _ rfl hG (Below.refl _ _) rfl
  refine PutSteps.at rfl (fun vs Y hG hdep K hK => ?_) ?_
  ·have e0:vs 64 = .int .i64 71:=hdep 64 rfl (by kernel_rfl)
   have x0:=putsOf_get (vs:=vs) (ps:=cnPS5) (a:=A0) 97 64 (by kernel_rfl) hsz (by kernel_rfl)
   rw [e0] at x0
   generalize putsOf A0 cnPS5 vs = B at x0 hK ⊢
   go_simp
   exact hK.out _ _ _ rfl hG (Below.refl _ _) rfl
  refine PutSteps.at rfl (fun vs Y hG hdep K hK => ?_) ?_
  ·have e0:vs 62 = .string G:=hdep 62 rfl (by kernel_rfl)
   have x0:=putsOf_get (vs:=vs) (ps:=cnPS5) (a:=A0) 95 62 (by kernel_rfl) hsz (by kernel_rfl)
   rw [e0] at x0
   have e1:vs 65 = .int .i64 70:=hdep 65 rfl (by kernel_rfl)
   have x1:=putsOf_get (vs:=vs) (ps:=cnPS5) (a:=A0) 98 65 (by kernel_rfl) hsz (by kernel_rfl)
   rw [e1] at x1
   generalize putsOf A0 cnPS5 vs = B at x0 x1 hK ⊢
   go_simp
   exact hK.out _ _ _ rfl hG (Below.refl _ _) rfl
  refine PutSteps.at rfl (fun vs Y hG hdep K hK => ?_) ?_
  ·have e0:vs 66 = .string (G.extract 0 70):=hdep 66 rfl (by kernel_rfl)
   have x0:=putsOf_get (vs:=vs) (ps:=cnPS5) (a:=A0) 99 66 (by kernel_rfl) hsz (by kernel_rfl)
   rw [e0] at x0
   generalize putsOf A0 cnPS5 vs = B at x0 hK ⊢
   go_simp
   exact hK.out _ _ _ rfl hG (Below.refl _ _) rfl
  refine PutSteps.at rfl (fun vs Y hG hdep K hK => ?_) ?_
  ·have x0:=putsOf_old (vs:=vs) (s:=1) cnPS5 A0 (by kernel_rfl)
   rw [y1] at x0
   generalize putsOf A0 cnPS5 vs = B at x0 hK ⊢
   go_simp
   exact hK.out _ _ _ rfl hG (Below.refl _ _) rfl
  refine PutSteps.at rfl (fun vs Y hG hdep K hK => ?_) ?_
  ·have e0:vs 67 = .string (G.extract 0 70 ++ ⟨#[44,34,120,34,58,49,125]⟩):=hdep 67 rfl (by kernel_rfl)
   have x0:=putsOf_get (vs:=vs) (ps:=cnPS5) (a:=A0) 100 67 (by kernel_rfl) hsz (by kernel_rfl)
   rw [e0] at x0
   have e1:vs 68 = .string ⟨#[34,114,34,58,91,34,117,34,93,44,34,115,34,58,91,93]⟩:=hdep 68 rfl (by kernel_rfl)
   have x1:=putsOf_get (vs:=vs) (ps:=cnPS5) (a:=A0) 101 68 (by kernel_rfl) hsz (by kernel_rfl)
   rw [e1] at x1
   generalize putsOf A0 cnPS5 vs = B at x0 x1 hK ⊢
   go_simp
   refine (HT21.out _).mono ?_
   rintro e w4 ⟨rfl,hEq⟩
   obtain rfl:=hEq.symm
   exact hK.out _ _ _ rfl hG (Below.refl _ _) rfl
  refine PutSteps.at rfl (fun vs Y hG hdep K hK => ?_) ?_
  ·have e0:vs 69 = .string T21:=hdep 69 rfl (by kernel_rfl)
   have x0:=putsOf_get (vs:=vs) (ps:=cnPS5) (a:=A0) 102 69 (by kernel_rfl) hsz (by kernel_rfl)
   rw [e0] at x0
   generalize putsOf A0 cnPS5 vs = B at x0 hK ⊢
   go_simp
   exact hK.out _ _ _ rfl hG (Below.refl _ _) rfl
  refine PutSteps.at rfl (fun vs Y hG hdep K hK => ?_) ?_
  ·have x0:=putsOf_old (vs:=vs) (s:=2) cnPS5 A0 (by kernel_rfl)
   rw [y2] at x0
   generalize putsOf A0 cnPS5 vs = B at x0 hK ⊢
   go_simp
   exact hK.out _ _ _ rfl hG (Below.refl _ _) rfl
  refine PutSteps.at rfl (fun vs Y hG hdep K hK => ?_) ?_
  ·have x0:=putsOf_old (vs:=vs) (s:=1) cnPS5 A0 (by kernel_rfl)
   rw [y1] at x0
   generalize putsOf A0 cnPS5 vs = B at x0 hK ⊢
   go_simp
   exact hK.out _ _ _ rfl hG (Below.refl _ _) rfl
  refine PutSteps.at rfl (fun vs Y hG hdep K hK => ?_) ?_
  ·have e0:vs 71 = .string G:=hdep 71 rfl (by kernel_rfl)
   have x0:=putsOf_get (vs:=vs) (ps:=cnPS5) (a:=A0) 104 71 (by kernel_rfl) hsz (by kernel_rfl)
   rw [e0] at x0
   have e1:vs 72 = .string ⟨#[34,114,34,58,91,34,117,34,93,44,34,115,34,58,91,93]⟩:=hdep 72 rfl (by kernel_rfl)
   have x1:=putsOf_get (vs:=vs) (ps:=cnPS5) (a:=A0) 105 72 (by kernel_rfl) hsz (by kernel_rfl)
   rw [e1] at x1
   generalize putsOf A0 cnPS5 vs = B at x0 x1 hK ⊢
   go_simp
   refine (HT22.out _).mono ?_
   rintro e w4 ⟨rfl,hEq⟩
   obtain rfl:=hEq.symm
   exact hK.out _ _ _ rfl hG (Below.refl _ _) rfl
  refine PutSteps.at rfl (fun vs Y hG hdep K hK => ?_) ?_
  ·have e0:vs 73 = .string T22:=hdep 73 rfl (by kernel_rfl)
   have x0:=putsOf_get (vs:=vs) (ps:=cnPS5) (a:=A0) 106 73 (by kernel_rfl) hsz (by kernel_rfl)
   rw [e0] at x0
   generalize putsOf A0 cnPS5 vs = B at x0 hK ⊢
   go_simp
   exact hK.out _ _ _ rfl hG (Below.refl _ _) rfl
  refine PutSteps.at rfl (fun vs Y hG hdep K hK => ?_) ?_
  ·have e0:vs 74 = .string (T22.extract 1 119):=hdep 74 rfl (by kernel_rfl)
   have x0:=putsOf_get (vs:=vs) (ps:=cnPS5) (a:=A0) 107 74 (by kernel_rfl) hsz (by kernel_rfl)
   rw [e0] at x0
   generalize putsOf A0 cnPS5 vs = B at x0 hK ⊢
   go_simp
   exact hK.out _ _ _ rfl hG (Below.refl _ _) rfl
  refine PutSteps.at rfl (fun vs Y hG hdep K hK => ?_) ?_
  ·have e0:vs 75 = .string (⟨#[123,34,97,34,58,49,44]⟩ ++ T22.extract 1 119):=hdep 75 rfl (by kernel_rfl)
   have x0:=putsOf_get (vs:=vs) (ps:=cnPS5) (a:=A0) 108 75 (by kernel_rfl) hsz (by kernel_rfl)
   rw [e0] at x0
   generalize putsOf A0 cnPS5 vs = B at x0 hK ⊢
   go_simp
   exact hK.out _ _ _ rfl hG (Below.refl _ _) rfl
  refine PutSteps.at rfl (fun vs Y hG hdep K hK => ?_) ?_
  ·have x0:=putsOf_old (vs:=vs) (s:=1) cnPS5 A0 (by kernel_rfl)
   rw [y1] at x0
   generalize putsOf A0 cnPS5 vs = B at x0 hK ⊢
   go_simp
   exact hK.out _ _ _ rfl hG (Below.refl _ _) rfl
  refine PutSteps.at rfl (fun vs Y hG hdep K hK => ?_) ?_
  ·have e0:vs 77 = .string ⟨#[34,114,34,58,91,34,117,34,93,44,34,115,34,58,91,93]⟩:=hdep 77 rfl (by kernel_rfl)
   have x0:=putsOf_get (vs:=vs) (ps:=cnPS5) (a:=A0) 110 77 (by kernel_rfl) hsz (by kernel_rfl)
   rw [e0] at x0
   generalize putsOf A0 cnPS5 vs = B at x0 hK ⊢
   go_simp
   exact hK.out _ _ _ rfl hG (Below.refl _ _) rfl
  refine PutSteps.at rfl (fun vs Y hG hdep K hK => ?_) ?_
  ·have e0:vs 78 = .string (⟨#[123,34,114,101,112,111,115,105,116,111,114,105,101,115,34,58,123]⟩ ++ ⟨#[34,114,34,58,91,34,117,34,93,44,34,115,34,58,91,93]⟩):=hdep 78 rfl (by kernel_rfl)
   have x0:=putsOf_get (vs:=vs) (ps:=cnPS5) (a:=A0) 111 78 (by kernel_rfl) hsz (by kernel_rfl)
   rw [e0] at x0
   generalize putsOf A0 cnPS5 vs = B at x0 hK ⊢
   go_simp
   exact hK.out _ _ _ rfl hG (Below.refl _ _) rfl
  refine PutSteps.at rfl (fun vs Y hG hdep K hK => ?_) ?_
  ·have e0:vs 79 = .string ((⟨#[123,34,114,101,112,111,115,105,116,111,114,105,101,115,34,58,123]⟩ ++ ⟨#[34,114,34,58,91,34,117,34,93,44,34,115,34,58,91,93]⟩) ++ ⟨#[125,125]⟩):=hdep 79 rfl (by kernel_rfl)
   have x0:=putsOf_get (vs:=vs) (ps:=cnPS5) (a:=A0) 112 79 (by kernel_rfl) hsz (by kernel_rfl)
   rw [e0] at x0
   generalize putsOf A0 cnPS5 vs = B at x0 hK ⊢
   go_simp
   exact hK.out _ _ _ rfl hG (Below.refl _ _) rfl
  refine PutSteps.at rfl (fun vs Y hG hdep K hK => ?_) ?_
  ·have x0:=putsOf_old (vs:=vs) (s:=2) cnPS5 A0 (by kernel_rfl)
   rw [y2] at x0
   generalize putsOf A0 cnPS5 vs = B at x0 hK ⊢
   go_simp
   exact hK.out _ _ _ rfl hG (Below.refl _ _) rfl
  refine PutSteps.at rfl (fun vs Y hG hdep K hK => ?_) ?_
  ·have x0:=putsOf_old (vs:=vs) (s:=1) cnPS5 A0 (by kernel_rfl)
   rw [y1] at x0
   generalize putsOf A0 cnPS5 vs = B at x0 hK ⊢
   go_simp
   exact hK.out _ _ _ rfl hG (Below.refl _ _) rfl
  refine PutSteps.at rfl (fun vs Y hG hdep K hK => ?_) ?_
  ·have e0:vs 81 = .string G:=hdep 81 rfl (by kernel_rfl)
   have x0:=putsOf_get (vs:=vs) (ps:=cnPS5) (a:=A0) 114 81 (by kernel_rfl) hsz (by kernel_rfl)
   rw [e0] at x0
   have e1:vs 82 = .string ⟨#[34,114,34,58,91,34,117,34,93,44,34,115,34,58,91,93]⟩:=hdep 82 rfl (by kernel_rfl)
   have x1:=putsOf_get (vs:=vs) (ps:=cnPS5) (a:=A0) 115 82 (by kernel_rfl) hsz (by kernel_rfl)
   rw [e1] at x1
   generalize putsOf A0 cnPS5 vs = B at x0 x1 hK ⊢
   go_simp
   refine (HT22.out _).mono ?_
   rintro e w4 ⟨rfl,hEq⟩
   obtain rfl:=hEq.symm
   exact hK.out _ _ _ rfl hG (Below.refl _ _) rfl
  refine PutSteps.at rfl (fun vs Y hG hdep K hK => ?_) ?_
  ·have e0:vs 83 = .string T22:=hdep 83 rfl (by kernel_rfl)
   have x0:=putsOf_get (vs:=vs) (ps:=cnPS5) (a:=A0) 116 83 (by kernel_rfl) hsz (by kernel_rfl)
   rw [e0] at x0
   generalize putsOf A0 cnPS5 vs = B at x0 hK ⊢
   go_simp
   exact hK.out _ _ _ rfl hG (Below.refl _ _) rfl
  refine PutSteps.at rfl (fun vs Y hG hdep K hK => ?_) PutSteps.nil
  ·have e0:vs 84 = .string (T22 ++ ⟨#[49]⟩):=hdep 84 rfl (by kernel_rfl)
   have x0:=putsOf_get (vs:=vs) (ps:=cnPS5) (a:=A0) 117 84 (by kernel_rfl) hsz (by kernel_rfl)
   rw [e0] at x0
   generalize putsOf A0 cnPS5 vs = B at x0 hK ⊢
   go_simp
   exact hK.out _ _ _ rfl hG (Below.refl _ _) rfl
 ·intro vs Y hG hdep
  have e0:vs 0 = .agg #[.string ⟨#[]⟩,.int .i64 4]:=hdep 0 rfl
  have e1:vs 1 = .agg #[.string ⟨#[91,93]⟩,.int .i64 10]:=hdep 1 rfl
  have e2:vs 2 = .agg #[.string ⟨#[123,125]⟩,.int .i64 6]:=hdep 2 rfl
  have e3:vs 3 = .agg #[.string ⟨#[123,34,109,97,112,112,105,110,103,34,58,49,44,34,114,101,112,111,115,105,116,111,114,105,101,115,34,58,123,125,125]⟩,.int .i64 4]:=hdep 3 rfl
  have e4:vs 4 = .agg #[.string ⟨#[123,34,109,97,112,112,105,110,103,34,58,49,44,34,114,101,112,111,115,105,116,111,114,105,101,115,34,58,91,93,125]⟩,.int .i64 10]:=hdep 4 rfl
  have e6:vs 6 = .agg #[.string T5,.int .i64 3]:=hdep 6 rfl
  have e8:vs 8 = .agg #[.string T6,.int .i64 10]:=hdep 8 rfl
  have e10:vs 10 = .agg #[.string T7,.int .i64 5]:=hdep 10 rfl
  have e12:vs 12 = .agg #[.string T8,.int .i64 10]:=hdep 12 rfl
  have e15:vs 15 = .agg #[.string T9,.int .i64 10]:=hdep 15 rfl
  have e18:vs 18 = .agg #[.string T10,.int .i64 6]:=hdep 18 rfl
  have e22:vs 22 = .agg #[.string T11,.int .i64 4]:=hdep 22 rfl
  have e26:vs 26 = .agg #[.string T12,.int .i64 3]:=hdep 26 rfl
  have e30:vs 30 = .agg #[.string T13,.int .i64 10]:=hdep 30 rfl
  have e34:vs 34 = .agg #[.string T14,.int .i64 4]:=hdep 34 rfl
  have e38:vs 38 = .agg #[.string T15,.int .i64 6]:=hdep 38 rfl
  have e42:vs 42 = .agg #[.string T16,.int .i64 7]:=hdep 42 rfl
  have e46:vs 46 = .agg #[.string T17,.int .i64 1]:=hdep 46 rfl
  have e50:vs 50 = .agg #[.string T18,.int .i64 1]:=hdep 50 rfl
  have e54:vs 54 = .agg #[.string T19,.int .i64 10]:=hdep 54 rfl
  have e61:vs 61 = .agg #[.string T20,.int .i64 6]:=hdep 61 rfl
  have e70:vs 70 = .agg #[.string T21,.int .i64 11]:=hdep 70 rfl
  have e76:vs 76 = .agg #[.string (⟨#[123,34,97,34,58,49,44]⟩ ++ T22.extract 1 119),.int .i64 11]:=hdep 76 rfl
  have e80:vs 80 = .agg #[.string ((⟨#[123,34,114,101,112,111,115,105,116,111,114,105,101,115,34,58,123]⟩ ++ ⟨#[34,114,34,58,91,34,117,34,93,44,34,115,34,58,91,93]⟩) ++ ⟨#[125,125]⟩),.int .i64 6]:=hdep 80 rfl
  have e85:vs 85 = .agg #[.string (T22 ++ ⟨#[49]⟩),.int .i64 11]:=hdep 85 rfl
  have HBY:=Lib.hid (below_more HB1.out hG)
  clear hG hdep hsz y1 y2 zM11 zM12 zM13 zM14 zM15 zM16 zM17 zM18 zM19 zM20 HT5 HT6 HT7 HT8 HT9 HT10 HM11 HT11 HM12 HT12 HM13 HT13 HM14 HT14 HM15 HT15 HM16 HT16 HM17 HT17 HM18 HT18 HM19 HT19 HM20 HT20 HT21
  rw [hA0]
  clear hA0
  simp only [cnPS5,putsOf,List.foldl_cons,List.foldl_nil,Act.put,List.setIfInBounds_toArray,List.set_cons_zero,List.set_cons_succ]
  simp only [List.filterMap_cons,List.filterMap_nil]
  rw [e0,e1,e2,e3,e4,e6,e8,e10,e12,e15,e18,e22,e26,e30,e34,e38,e42,e46,e50,e54,e61,e70,e76,e80,e85]
  clear e0 e1 e2 e3 e4 e6 e8 e10 e12 e15 e18 e22 e26 e30 e34 e38 e42 e46 e50 e54 e61 e70 e76 e80 e85
  refine wpList_plain rfl fun K hK => ?_
  go_simp
  refine hK _ _ ?_
  clear hK
  refine wpList_plain rfl fun K hK => ?_
  go_simp
  refine hK _ _ ?_
  clear hK
  refine wpList_nil ?_
  have HK:Hid (BlkAt (Y.alloc (.cells cs 39)) Y.heap.size 39 cs):=blkAt_new Y cs _
  have HBW:Hid (Below w.heap.size w (Y.alloc (.cells cs 39))):=bel_alloc HBY.out _
  generalize Y.alloc (.cells cs 39) = W at HK HBW ⊢
  obtain ⟨bR,hbR⟩:∃ b,Y.heap.size = b:=⟨_,rfl⟩
  rw [hbR] at HK ⊢
  have HCS:=Lib.hid hcs
  clear hcs hbR HB1 HBY
  go_wp2_with fail
  go_loopw [121] (fun i wr => ∃ r:Nat,r ≤ 25 ∧ i = .int .i64 r ∧ Hid (Below W.heap.size W wr)) (fun i _ => 25 - (intOf i).toNat)
  case atStart => exact ⟨0,by omega,rfl,Below.refl _ _⟩
  case round =>
   obtain ⟨r,hr,rfl,HBr⟩:=hrel
   by_cases hr25:r < 25
   ·obtain ⟨s,er,hc0,hc1,hbad,hsz⟩:=HR.out r hr25
    have p0:wr.cell? ⟨bR,r * 2,none⟩ = some (.string s):=cell_keep HBr.out ((HK.out.cell _).trans hc0)
    have p1:wr.cell? ⟨bR,r * 2 + 1,none⟩ = some (.int .i64 er):=cell_keep HBr.out ((HK.out.cell _).trans hc1)
    have i0':(0:Int) ≤ (r:Int):=by omega
    have i1':(r:Int) < 25:=by omega
    have HRF:=Lib.hid (fun Y (hb:Below w.heap.size w Y) => refused_any s er hbad Y (by omega) (HEV.out Y hb))
    have HBr2:=Lib.hid (bel_alloc (below_more HBW.out HBr.out) (.cells #[.string s,.int .i64 er] 39))
    have HBr3:=Lib.hid (bel_alloc HBr.out (.cells #[.string s,.int .i64 er] 39))
    clear hc0 hc1 hbad hsz
    go_wp2_with fail
    refine (HRF.out _ HBr2.out).mono ?_
    rintro e w9 ⟨rfl,hb9⟩
    have HB9:=Lib.hid (below_more HBr3.out hb9)
    clear hb9
    go_wp2_with fail
    exact ⟨⟨r + 1,by omega,by go_num,HB9⟩,by simp [intOf]; omega⟩
   ·have i1':¬ (r:Int) < 25:=by omega
    have HBe:=Lib.hid (below_more HBW.out HBr.out)
    clear HK HR HBr HBW HAW HCS
    go_wp2_with fail
    refine (HTE.out _).mono ?_
    rintro e _ ⟨rfl,hEq⟩
    obtain rfl:=hEq.symm
    go_wp2_with fail
    refine (HRTE.out _ HBe.out).mono ?_
    rintro e w3 ⟨hb3,a1,c1,a2,c2,rfl⟩
    have HB4:=Lib.hid (bel_alloc (below_more HBe.out hb3) (.cells #[.slice a1 2 c1,.slice a2 0 c2] 25))
    have HKm:Hid (BlkAt (w3.alloc (.cells #[.slice a1 2 c1,.slice a2 0 c2] 25)) w3.heap.size 25 #[.slice a1 2 c1,.slice a2 0 c2]):=blkAt_new _ _ _
    clear hb3 HTE HRTE HBe
    go_wp2_with fail
    generalize w3.alloc (.cells #[.slice a1 2 c1,.slice a2 0 c2] 25) = w4 at HB4 HKm ⊢
    generalize w3.heap.size = bm at HKm ⊢
    go_loop [7,9] (fun m i => ∃ k:Nat,1 ≤ k ∧ k ≤ 16 ∧ i = .int .i64 k ∧ m = .string (manyT G (k - 1))) (fun _ i => 16 - (intOf i).toNat)
    case atStart => exact ⟨1,by omega,by omega,rfl,rfl⟩
    case round =>
     obtain ⟨k,hk1,hk,rfl,rfl⟩:=hrel
     obtain ⟨M,hM⟩:∃ M,manyT G (k - 1) = M:=⟨_,rfl⟩
     have hMs:M.size = 71 + (k - 1) * (71 + 1):=by rw [← hM]; exact many_size G 71 zG (k - 1)
     rw [hM]
     have HM:=Lib.hid hM
     clear hM
     by_cases hk16:k < 16
     ·have i1:(k:Int) < 16:=by omega
      go_wp2_with fail
      exact ⟨⟨k + 1,by omega,by omega,by go_num,by rw [show k + 1 - 1 = (k - 1) + 1 from by omega,manyT,HM.out]⟩,by simp [intOf]; omega⟩
     ·have i1:¬ (k:Int) < 16:=by omega
      obtain rfl:k = 16:=by omega
      obtain rfl:M = MM:=HM.out.symm.trans HMM.out
      clear HM
      go_wp2_with fail
      go_loopw [8,10] (fun m i wr => ∃ k:Nat,1 ≤ k ∧ k ≤ 8 ∧ i = .int .i64 k ∧ m = .string (reposT (k - 1)) ∧ Hid (Below w4.heap.size w4 wr)) (fun _ i _ => 8 - (intOf i).toNat)
      case atStart => exact ⟨1,by omega,by omega,rfl,rfl,Below.refl _ _⟩
      case round =>
       obtain ⟨k,hk1,hk,rfl,rfl,HB5⟩:=hrel
       obtain ⟨R,hR⟩:∃ R,reposT (k - 1) = R:=⟨_,rfl⟩
       have hRs:R.size = 6 + (k - 1) * 7:=by rw [← hR]; exact repos_size (k - 1)
       rw [hR]
       have HR:=Lib.hid hR
       clear hR
       by_cases hk8:k < 8
       ·have i1:(k:Int) < 8:=by omega
        have hcv:=conv_byte wr (97 + k) (by omega)
        have e1:IntKind.i64.wrap (97 + (k:Int)) = 97 + (k:Int):=IntWalk.i64_in _ (by omega)
        have e2:IntKind.u8.wrap (97 + (k:Int)) = 97 + (k:Int):=u8_wrap_in _ (by omega)
        rw [show ((97 + k:Nat):Int) = 97 + (k:Int) from by omega] at hcv
        have HB6:=Lib.hid (bel_alloc HB5.out (.cells #[.int .u8 (97 + (k:Int))] 5))
        go_wp2_with fail
        exact ⟨⟨k + 1,by omega,by omega,by go_num,by rw [show k + 1 - 1 = (k - 1) + 1 from by omega,reposT,HR.out,show k - 1 + 1 = k from by omega,UInt8.ofNat_add] <;> rfl,HB6⟩,by simp [intOf]; omega⟩
       ·have i1:¬ (k:Int) < 8:=by omega
        obtain rfl:k = 8:=by omega
        obtain rfl:R = RR:=HR.out.symm.trans HRR.out
        have HB7:=Lib.hid (below_more HB4.out HB5.out)
        have HKm5:=Lib.hid (BlkAt.keep HKm.out HB5.out)
        clear HR HKm HB4 HB5
        go_wp2_with fail
        refine (HTM.out _).mono ?_
        rintro e _ ⟨rfl,hEq⟩
        obtain rfl:=hEq.symm
        go_wp2_with fail
        refine (HRTM.out _ HB7.out).mono ?_
        rintro e w8 ⟨hb8,x1,y1,x2,y2,rfl⟩
        have HB8:=Lib.hid (bel_alloc (below_more HB7.out hb8) (.cells #[.slice x1 2 y1,.slice x2 16 y2] 25))
        have HKm8:=Lib.hid (BlkAt.keep (BlkAt.keep HKm5.out hb8) (bel_alloc (Below.refl _ _) (.cells #[.slice x1 2 y1,.slice x2 16 y2] 25)))
        clear hb8 HB7 HKm5 HTM HRTM
        go_wp2_with fail
        generalize w8.alloc (.cells #[.slice x1 2 y1,.slice x2 16 y2] 25) = w9 at HB8 HKm8 ⊢
        refine (HTR.out _).mono ?_
        rintro e _ ⟨rfl,hEq⟩
        obtain rfl:=hEq.symm
        go_wp2_with fail
        refine (HRTR.out _ HB8.out).mono ?_
        rintro e w10 ⟨hb10,x3,y3,x4,y4,rfl⟩
        have HB10:=Lib.hid (bel_alloc (below_more HB8.out hb10) (.cells #[.slice x3 8 y3,.slice x4 0 y4] 25))
        have HKm10:=Lib.hid (BlkAt.keep (BlkAt.keep HKm8.out hb10) (bel_alloc (Below.refl _ _) (.cells #[.slice x3 8 y3,.slice x4 0 y4] 25)))
        clear hb10 HB8 HKm8 HTR HRTR
        go_wp2_with fail
        generalize w10.alloc (.cells #[.slice x3 8 y3,.slice x4 0 y4] 25) = w11 at HB10 HKm10 ⊢
        go_loop [15,16] (fun m i => ∃ k:Nat,1 ≤ k ∧ k ≤ 32 ∧ i = .int .i64 k ∧ m = .string (pathsT (k - 1))) (fun _ i => 32 - (intOf i).toNat)
        case atStart => exact ⟨1,by omega,by omega,rfl,rfl⟩
        case round =>
         obtain ⟨k,hk1,hk,rfl,rfl⟩:=hrel
         obtain ⟨P,hP⟩:∃ P,pathsT (k - 1) = P:=⟨_,rfl⟩
         have hPs:P.size = 3 + (k - 1) * 4:=by rw [← hP]; exact paths_size (k - 1)
         rw [hP]
         have HP:=Lib.hid hP
         clear hP
         by_cases hk32:k < 32
         ·have i1:(k:Int) < 32:=by omega
          go_wp2_with fail
          exact ⟨⟨k + 1,by omega,by omega,by go_num,by rw [show k + 1 - 1 = (k - 1) + 1 from by omega,pathsT,HP.out]⟩,by simp [intOf]; omega⟩
         ·have i1:¬ (k:Int) < 32:=by omega
          obtain rfl:k = 32:=by omega
          obtain rfl:P = PP:=HP.out.symm.trans HPP.out
          clear HP
          go_wp2_with fail
          refine (HMP1.out _).mono ?_
          rintro e _ ⟨rfl,hEq⟩
          obtain rfl:=hEq.symm
          go_wp2_with fail
          refine (HTP.out _).mono ?_
          rintro e _ ⟨rfl,hEq⟩
          obtain rfl:=hEq.symm
          go_wp2_with fail
          refine (HRTP.out _ HB10.out).mono ?_
          rintro e w12 ⟨hb12,x5,y5,x6,y6,rfl⟩
          have HB12:=Lib.hid (bel_alloc (below_more HB10.out hb12) (.cells #[.slice x5 2 y5,.slice x6 1 y6] 25))
          have HKm12:=Lib.hid (BlkAt.keep (BlkAt.keep HKm10.out hb12) (bel_alloc (Below.refl _ _) (.cells #[.slice x5 2 y5,.slice x6 1 y6] 25)))
          clear hb12 HB10 HKm10 HMP1 HTP HRTP
          obtain ⟨m0,m1,mf⟩:=b2 HKm12.out
          go_wp2_with fail
          generalize w12.alloc (.cells #[.slice x5 2 y5,.slice x6 1 y6] 25) = w13 at HB12 HKm12 m0 m1 mf ⊢
          refine (HTM1.out _).mono ?_
          rintro e _ ⟨rfl,hEq⟩
          obtain rfl:=hEq.symm
          go_wp2_with fail
          refine (HFTM1.out _ HB12.out).mono ?_
          rintro e w14 ⟨rfl,hb14⟩
          have HB14:=Lib.hid (below_more HB12.out hb14)
          clear hb14 m0 m1 mf HKm12 HTM1 HFTM1
          go_wp2_with fail
          refine (HTR1.out _).mono ?_
          rintro e _ ⟨rfl,hEq⟩
          obtain rfl:=hEq.symm
          go_wp2_with fail
          refine (HFTR1.out _ HB14.out).mono ?_
          rintro e w15 ⟨rfl,hb15⟩
          have HB15:=Lib.hid (below_more HB14.out hb15)
          clear hb15 HTR1 HFTR1
          go_wp2_with fail
          refine (HMP2.out _).mono ?_
          rintro e _ ⟨rfl,hEq⟩
          obtain rfl:=hEq.symm
          go_wp2_with fail
          refine (HTP1.out _).mono ?_
          rintro e _ ⟨rfl,hEq⟩
          obtain rfl:=hEq.symm
          go_wp2_with fail
          refine (HFTP1.out _ HB15.out).mono ?_
          rintro e w16 ⟨rfl,hb16⟩
          have HB16:=Lib.hid (below_more HB15.out hb16)
          clear hb16 HMP2 HTP1 HFTP1 HB12 HB14 HB15 HEV HGG HMM HRR HPP HG hMs hRs hPs zG zMM zRR zPP
          have HKg:Hid (BlkAt (w16.alloc (.cells #[.string ⟨#[114]⟩,.slice none 0 0] 47)) w16.heap.size 47 #[.string ⟨#[114]⟩,.slice none 0 0]):=blkAt_new _ _ _
          have HB17:=Lib.hid (bel_alloc HB16.out (.cells #[.string ⟨#[114]⟩,.slice none 0 0] 47))
          go_wp2_with fail
          generalize w16.alloc (.cells #[.string ⟨#[114]⟩,.slice none 0 0] 47) = w17 at HKg HB17 ⊢
          generalize w16.heap.size = g at HKg ⊢
          have HG1:Hid (∀ W,Below w17.heap.size w17 W → ReposAt W (.slice (some ⟨g,0,none⟩) 1 1) [(⟨#[114]⟩,[])]):=fun W hb => repos1_at (BlkAt.keep HKg.out hb) (by decide) (strsAt_nil _) rfl
          obtain ⟨i0,hi0,hy0,hy1,hy2⟩:=info_parts infoStr
          have HMK:Hid (∀ W,(Instr.makeSlice 28 (.int .i64 9) (.int .i64 9)).run Tryz.prog W = .ok (.slice (some ⟨W.heap.size,0,none⟩) 9 9) (W.alloc (.cells (madeCells (Value.string ⟨#[]⟩).cells 9) 9))):=fun W => by
           have:=run_makeSlice (P:=Tryz.prog) W 28 9 i0 (.string ⟨#[]⟩) Tryz.underlying28 hi0 hy0 .i64 .i64 9 9 (by omega) (Int.le_refl _) (by rw [hy1]; decide) (by rw [hy2]; decide) (by decide)
           rw [hy1] at this
           exact this
          obtain ⟨i1,hi1,hq0,hq1,hq2⟩:=info_parts infoMapg
          have HMK2:Hid (∀ W,(Instr.makeSlice 23 (.int .i64 17) (.int .i64 17)).run Tryz.prog W = .ok (.slice (some ⟨W.heap.size,0,none⟩) 17 17) (W.alloc (.cells (madeCells z50.cells 68) 50))):=fun W => by
           have:=run_makeSlice (P:=Tryz.prog) W 23 50 i1 z50 Tryz.underlying23 hi1 hq0 .i64 .i64 17 17 (by omega) (Int.le_refl _) (by rw [hq1]; decide) (by rw [hq2]; decide) (by decide)
           rw [hq1] at this
           exact this
          clear hi0 hy0 hy1 hy2 hi1 hq0 hq1 hq2
          refine wp_region_any (by kernel_rfl) ?_
          refine wpAny_pure (i:=62) (v:=.int .i64 0) rfl (by kernel_rfl) (by kernel_rfl) (by kernel_rfl) (fun _ _ _ h => h) (Or.inl ⟨by rfl,fun Y => by go_simp⟩) ?_
          simp only [Act.put,List.setIfInBounds_toArray,List.set_cons_zero,List.set_cons_succ]
          refine wpAny_name (fun A0 hA0 => ?_)
          have hsz:A0.tmps.size = 314:=by rw [hA0]; rfl
          have x19:A0.tmps[19]? = some (.slice (some ⟨g,0,none⟩) 1 1):=by rw [hA0]; rfl
          refine wpAny_puts cnPS 60 [61] (by kernel_rfl) (by kernel_rfl) (of_decide_eq_true (by kernel_rfl)) (fun w' => Below w17.heap.size w17 w') (fun k v w => (cnD g k).p v w) (cnD_keep g) (bel_drew (Below.refl _ _)) ?_ ?_
          ·refine PutSteps.at rfl (fun vs Y hG hdep K hK => ?_) ?_
           ·have x0:=putsOf_old (vs:=vs) (s:=19) cnPS A0 (by kernel_rfl)
            rw [x19] at x0
            generalize putsOf A0 cnPS vs = B at x0 hK ⊢
            go_simp
            exact hK.out _ _ _ rfl hG (Below.refl _ _) rfl
           refine PutSteps.at rfl (fun vs Y hG hdep K hK => ?_) ?_
           ·have e0:vs 0 = (.slice (some ⟨g,0,none⟩) 1 1):=hdep 0 rfl (by kernel_rfl)
            have x0:=putsOf_get (vs:=vs) (ps:=cnPS) (a:=A0) 241 0 (by kernel_rfl) hsz (by kernel_rfl)
            rw [e0] at x0
            generalize putsOf A0 cnPS vs = B at x0 hK ⊢
            go_simp
            exact hK.out _ _ _ rfl hG (Below.refl _ _) rfl
           refine PutSteps.at rfl (fun vs Y hG hdep K hK => ?_) ?_
           ·have e0:vs 1 = (.agg #[.slice (some ⟨g,0,none⟩) 1 1,.slice none 0 0]):=hdep 1 rfl (by kernel_rfl)
            have x0:=putsOf_get (vs:=vs) (ps:=cnPS) (a:=A0) 242 1 (by kernel_rfl) hsz (by kernel_rfl)
            rw [e0] at x0
            generalize putsOf A0 cnPS vs = B at x0 hK ⊢
            go_simp
            exact hK.out _ _ _ rfl hG (Below.refl _ _) rfl
           refine PutSteps.at rfl (fun vs Y hG hdep K hK => ?_) ?_
           ·generalize putsOf A0 cnPS vs = B at  hK ⊢
            go_simp
            exact hK.out _ _ _ rfl hG (Below.refl _ _) rfl
           refine PutSteps.at rfl (fun vs Y hG hdep K hK => ?_) ?_
           ·have e0:vs 3 = (.agg #[.slice none 0 0,.slice none 0 0]):=hdep 3 rfl (by kernel_rfl)
            have x0:=putsOf_get (vs:=vs) (ps:=cnPS) (a:=A0) 244 3 (by kernel_rfl) hsz (by kernel_rfl)
            rw [e0] at x0
            generalize putsOf A0 cnPS vs = B at x0 hK ⊢
            go_simp
            exact hK.out _ _ _ rfl hG (Below.refl _ _) rfl
           refine PutSteps.at rfl (fun vs Y hG hdep K hK => ?_) ?_
           ·generalize putsOf A0 cnPS vs = B at  hK ⊢
            go_simp
            exact hK.out _ _ _ rfl hG (Below.refl _ _) rfl
           refine PutSteps.at rfl (fun vs Y hG hdep K hK => ?_) ?_
           ·generalize putsOf A0 cnPS vs = B at  hK ⊢
            go_simp
            exact hK.out _ _ _ rfl hG (Below.refl _ _) rfl
           refine PutSteps.at rfl (fun vs Y hG hdep K hK => ?_) ?_
           ·have e0:vs 5 = (.agg #[.string ⟨#[115]⟩,.slice none 0 0]):=hdep 5 rfl (by kernel_rfl)
            have x0:=putsOf_get (vs:=vs) (ps:=cnPS) (a:=A0) 246 5 (by kernel_rfl) hsz (by kernel_rfl)
            rw [e0] at x0
            have e1:vs 6 = (.agg #[.string ⟨#[114]⟩,.slice none 0 0]):=hdep 6 rfl (by kernel_rfl)
            have x1:=putsOf_get (vs:=vs) (ps:=cnPS) (a:=A0) 247 6 (by kernel_rfl) hsz (by kernel_rfl)
            rw [e1] at x1
            generalize putsOf A0 cnPS vs = B at x0 x1 hK ⊢
            have hk:=blkAt_newC Y #[.string ⟨#[115]⟩,.slice none 0 0,.string ⟨#[114]⟩,.slice none 0 0] 47
            have hbY:Below Y.heap.size Y (Y.alloc (.cells #[.string ⟨#[115]⟩,.slice none 0 0,.string ⟨#[114]⟩,.slice none 0 0] 47)):=bel_alloc (Below.refl _ _) _
            go_simp
            exact hK.out _ _ _ rfl (bel_alloc hG _) hbY ⟨Y.heap.size,rfl,repos2_at hk (by decide) (by decide)⟩
           refine PutSteps.at rfl (fun vs Y hG hdep K hK => ?_) ?_
           ·obtain ⟨b,e0,h0⟩:=(hdep 7 rfl (by kernel_rfl):(mRepos 2 [(⟨#[115]⟩,[]),(⟨#[114]⟩,[])]).p (vs 7) Y)
            have x0:=putsOf_get (vs:=vs) (ps:=cnPS) (a:=A0) 248 7 (by kernel_rfl) hsz (by kernel_rfl)
            rw [e0] at x0
            generalize putsOf A0 cnPS vs = B at x0 hK ⊢
            go_simp
            exact hK.out _ _ _ rfl hG (Below.refl _ _) ⟨b,rfl,mapOf h0 (maps0_at _)⟩
           refine PutSteps.at rfl (fun vs Y hG hdep K hK => ?_) ?_
           ·obtain ⟨b,e0,h0⟩:=(hdep 8 rfl (by kernel_rfl):(mMap1 2 ⟨[(⟨#[115]⟩,[]),(⟨#[114]⟩,[])],[]⟩).p (vs 8) Y)
            have x0:=putsOf_get (vs:=vs) (ps:=cnPS) (a:=A0) 249 8 (by kernel_rfl) hsz (by kernel_rfl)
            rw [e0] at x0
            generalize putsOf A0 cnPS vs = B at x0 hK ⊢
            go_simp
            exact hK.out _ _ _ rfl hG (Below.refl _ _) ⟨b,rfl,h0⟩
           refine PutSteps.at rfl (fun vs Y hG hdep K hK => ?_) ?_
           ·generalize putsOf A0 cnPS vs = B at  hK ⊢
            go_simp
            exact hK.out _ _ _ rfl hG (Below.refl _ _) rfl
           refine PutSteps.at rfl (fun vs Y hG hdep K hK => ?_) ?_
           ·generalize putsOf A0 cnPS vs = B at  hK ⊢
            go_simp
            exact hK.out _ _ _ rfl hG (Below.refl _ _) rfl
           refine PutSteps.at rfl (fun vs Y hG hdep K hK => ?_) ?_
           ·have e0:vs 10 = (.agg #[.string ⟨#[114]⟩,.slice none 0 0]):=hdep 10 rfl (by kernel_rfl)
            have x0:=putsOf_get (vs:=vs) (ps:=cnPS) (a:=A0) 251 10 (by kernel_rfl) hsz (by kernel_rfl)
            rw [e0] at x0
            have e1:vs 11 = (.agg #[.string ⟨#[114]⟩,.slice none 0 0]):=hdep 11 rfl (by kernel_rfl)
            have x1:=putsOf_get (vs:=vs) (ps:=cnPS) (a:=A0) 252 11 (by kernel_rfl) hsz (by kernel_rfl)
            rw [e1] at x1
            generalize putsOf A0 cnPS vs = B at x0 x1 hK ⊢
            have hk:=blkAt_newC Y #[.string ⟨#[114]⟩,.slice none 0 0,.string ⟨#[114]⟩,.slice none 0 0] 47
            have hbY:Below Y.heap.size Y (Y.alloc (.cells #[.string ⟨#[114]⟩,.slice none 0 0,.string ⟨#[114]⟩,.slice none 0 0] 47)):=bel_alloc (Below.refl _ _) _
            go_simp
            exact hK.out _ _ _ rfl (bel_alloc hG _) hbY ⟨Y.heap.size,rfl,repos2_at hk (by decide) (by decide)⟩
           refine PutSteps.at rfl (fun vs Y hG hdep K hK => ?_) ?_
           ·obtain ⟨b,e0,h0⟩:=(hdep 12 rfl (by kernel_rfl):(mRepos 2 [(⟨#[114]⟩,[]),(⟨#[114]⟩,[])]).p (vs 12) Y)
            have x0:=putsOf_get (vs:=vs) (ps:=cnPS) (a:=A0) 253 12 (by kernel_rfl) hsz (by kernel_rfl)
            rw [e0] at x0
            generalize putsOf A0 cnPS vs = B at x0 hK ⊢
            go_simp
            exact hK.out _ _ _ rfl hG (Below.refl _ _) ⟨b,rfl,mapOf h0 (maps0_at _)⟩
           refine PutSteps.at rfl (fun vs Y hG hdep K hK => ?_) ?_
           ·obtain ⟨b,e0,h0⟩:=(hdep 13 rfl (by kernel_rfl):(mMap1 2 ⟨[(⟨#[114]⟩,[]),(⟨#[114]⟩,[])],[]⟩).p (vs 13) Y)
            have x0:=putsOf_get (vs:=vs) (ps:=cnPS) (a:=A0) 254 13 (by kernel_rfl) hsz (by kernel_rfl)
            rw [e0] at x0
            generalize putsOf A0 cnPS vs = B at x0 hK ⊢
            go_simp
            exact hK.out _ _ _ rfl hG (Below.refl _ _) ⟨b,rfl,h0⟩
           refine PutSteps.at rfl (fun vs Y hG hdep K hK => ?_) ?_
           ·generalize putsOf A0 cnPS vs = B at  hK ⊢
            go_simp
            exact hK.out _ _ _ rfl hG (Below.refl _ _) rfl
           refine PutSteps.at rfl (fun vs Y hG hdep K hK => ?_) ?_
           ·have e0:vs 15 = (.agg #[.string ⟨#[46,114]⟩,.slice none 0 0]):=hdep 15 rfl (by kernel_rfl)
            have x0:=putsOf_get (vs:=vs) (ps:=cnPS) (a:=A0) 256 15 (by kernel_rfl) hsz (by kernel_rfl)
            rw [e0] at x0
            generalize putsOf A0 cnPS vs = B at x0 hK ⊢
            have hk:=blkAt_newC Y #[.string ⟨#[46,114]⟩,.slice none 0 0] 47
            have hbY:Below Y.heap.size Y (Y.alloc (.cells #[.string ⟨#[46,114]⟩,.slice none 0 0] 47)):=bel_alloc (Below.refl _ _) _
            go_simp
            exact hK.out _ _ _ rfl (bel_alloc hG _) hbY ⟨Y.heap.size,rfl,repos1_at hk (by decide) (strsAt_nil _) rfl⟩
           refine PutSteps.at rfl (fun vs Y hG hdep K hK => ?_) ?_
           ·obtain ⟨b,e0,h0⟩:=(hdep 16 rfl (by kernel_rfl):(mRepos 1 [(⟨#[46,114]⟩,[])]).p (vs 16) Y)
            have x0:=putsOf_get (vs:=vs) (ps:=cnPS) (a:=A0) 257 16 (by kernel_rfl) hsz (by kernel_rfl)
            rw [e0] at x0
            generalize putsOf A0 cnPS vs = B at x0 hK ⊢
            go_simp
            exact hK.out _ _ _ rfl hG (Below.refl _ _) ⟨b,rfl,mapOf h0 (maps0_at _)⟩
           refine PutSteps.at rfl (fun vs Y hG hdep K hK => ?_) ?_
           ·obtain ⟨b,e0,h0⟩:=(hdep 17 rfl (by kernel_rfl):(mMap1 1 ⟨[(⟨#[46,114]⟩,[])],[]⟩).p (vs 17) Y)
            have x0:=putsOf_get (vs:=vs) (ps:=cnPS) (a:=A0) 258 17 (by kernel_rfl) hsz (by kernel_rfl)
            rw [e0] at x0
            generalize putsOf A0 cnPS vs = B at x0 hK ⊢
            go_simp
            exact hK.out _ _ _ rfl hG (Below.refl _ _) ⟨b,rfl,h0⟩
           refine PutSteps.at rfl (fun vs Y hG hdep K hK => ?_) ?_
           ·generalize putsOf A0 cnPS vs = B at  hK ⊢
            have hk:=blkAt_newC Y #[.string ⟨#[255]⟩] 9
            have hbY:Below Y.heap.size Y (Y.alloc (.cells #[.string ⟨#[255]⟩] 9)):=bel_alloc (Below.refl _ _) _
            go_simp
            exact hK.out _ _ _ rfl (bel_alloc hG _) hbY ⟨Y.heap.size,rfl,strs1_at hk (by decide)⟩
           refine PutSteps.at rfl (fun vs Y hG hdep K hK => ?_) ?_
           ·obtain ⟨b,e0,h0⟩:=(hdep 19 rfl (by kernel_rfl):(mStrs 1 [⟨#[255]⟩]).p (vs 19) Y)
            have x0:=putsOf_get (vs:=vs) (ps:=cnPS) (a:=A0) 260 19 (by kernel_rfl) hsz (by kernel_rfl)
            rw [e0] at x0
            generalize putsOf A0 cnPS vs = B at x0 hK ⊢
            go_simp
            exact hK.out _ _ _ rfl hG (Below.refl _ _) ⟨b,rfl,h0⟩
           refine PutSteps.at rfl (fun vs Y hG hdep K hK => ?_) ?_
           ·obtain ⟨b,e0,h0⟩:=(hdep 20 rfl (by kernel_rfl):(mRepo ⟨#[114]⟩ 1 [⟨#[255]⟩]).p (vs 20) Y)
            have x0:=putsOf_get (vs:=vs) (ps:=cnPS) (a:=A0) 261 20 (by kernel_rfl) hsz (by kernel_rfl)
            rw [e0] at x0
            generalize putsOf A0 cnPS vs = B at x0 hK ⊢
            have hk:=blkAt_newC Y #[.string ⟨#[114]⟩,.slice (some ⟨b,0,none⟩) 1 1] 47
            have hbY:Below Y.heap.size Y (Y.alloc (.cells #[.string ⟨#[114]⟩,.slice (some ⟨b,0,none⟩) 1 1] 47)):=bel_alloc (Below.refl _ _) _
            go_simp
            exact hK.out _ _ _ rfl (bel_alloc hG _) hbY ⟨Y.heap.size,rfl,repos1_at hk (by decide) (h0.keep hbY) rfl⟩
           refine PutSteps.at rfl (fun vs Y hG hdep K hK => ?_) ?_
           ·obtain ⟨b,e0,h0⟩:=(hdep 21 rfl (by kernel_rfl):(mRepos 1 [(⟨#[114]⟩,[⟨#[255]⟩])]).p (vs 21) Y)
            have x0:=putsOf_get (vs:=vs) (ps:=cnPS) (a:=A0) 262 21 (by kernel_rfl) hsz (by kernel_rfl)
            rw [e0] at x0
            generalize putsOf A0 cnPS vs = B at x0 hK ⊢
            go_simp
            exact hK.out _ _ _ rfl hG (Below.refl _ _) ⟨b,rfl,mapOf h0 (maps0_at _)⟩
           refine PutSteps.at rfl (fun vs Y hG hdep K hK => ?_) ?_
           ·obtain ⟨b,e0,h0⟩:=(hdep 22 rfl (by kernel_rfl):(mMap1 1 ⟨[(⟨#[114]⟩,[⟨#[255]⟩])],[]⟩).p (vs 22) Y)
            have x0:=putsOf_get (vs:=vs) (ps:=cnPS) (a:=A0) 263 22 (by kernel_rfl) hsz (by kernel_rfl)
            rw [e0] at x0
            generalize putsOf A0 cnPS vs = B at x0 hK ⊢
            go_simp
            exact hK.out _ _ _ rfl hG (Below.refl _ _) ⟨b,rfl,h0⟩
           refine PutSteps.at rfl (fun vs Y hG hdep K hK => ?_) ?_
           ·generalize putsOf A0 cnPS vs = B at  hK ⊢
            have hrun:=HMK.out Y
            have hk:=blkAt_newC Y (madeCells (Value.string ⟨#[]⟩).cells 9) 9
            have hbY:Below Y.heap.size Y (Y.alloc (.cells (madeCells (Value.string ⟨#[]⟩).cells 9) 9)):=bel_alloc (Below.refl _ _) _
            go_simp
            exact hK.out _ _ _ rfl (bel_alloc hG _) hbY ⟨Y.heap.size,rfl,nines_at hk⟩
           refine PutSteps.at rfl (fun vs Y hG hdep K hK => ?_) ?_
           ·obtain ⟨b,e0,h0⟩:=(hdep 24 rfl (by kernel_rfl):(mStrs 9 (List.replicate 9 ⟨#[]⟩)).p (vs 24) Y)
            have x0:=putsOf_get (vs:=vs) (ps:=cnPS) (a:=A0) 265 24 (by kernel_rfl) hsz (by kernel_rfl)
            rw [e0] at x0
            generalize putsOf A0 cnPS vs = B at x0 hK ⊢
            go_simp
            exact hK.out _ _ _ rfl hG (Below.refl _ _) ⟨b,rfl,h0⟩
           refine PutSteps.at rfl (fun vs Y hG hdep K hK => ?_) ?_
           ·obtain ⟨b,e0,h0⟩:=(hdep 25 rfl (by kernel_rfl):(mRepo ⟨#[114]⟩ 9 (List.replicate 9 ⟨#[]⟩)).p (vs 25) Y)
            have x0:=putsOf_get (vs:=vs) (ps:=cnPS) (a:=A0) 266 25 (by kernel_rfl) hsz (by kernel_rfl)
            rw [e0] at x0
            generalize putsOf A0 cnPS vs = B at x0 hK ⊢
            have hk:=blkAt_newC Y #[.string ⟨#[114]⟩,.slice (some ⟨b,0,none⟩) 9 9] 47
            have hbY:Below Y.heap.size Y (Y.alloc (.cells #[.string ⟨#[114]⟩,.slice (some ⟨b,0,none⟩) 9 9] 47)):=bel_alloc (Below.refl _ _) _
            go_simp
            exact hK.out _ _ _ rfl (bel_alloc hG _) hbY ⟨Y.heap.size,rfl,repos1_at hk (by decide) (h0.keep hbY) rfl⟩
           refine PutSteps.at rfl (fun vs Y hG hdep K hK => ?_) ?_
           ·obtain ⟨b,e0,h0⟩:=(hdep 26 rfl (by kernel_rfl):(mRepos 1 [(⟨#[114]⟩,List.replicate 9 ⟨#[]⟩)]).p (vs 26) Y)
            have x0:=putsOf_get (vs:=vs) (ps:=cnPS) (a:=A0) 267 26 (by kernel_rfl) hsz (by kernel_rfl)
            rw [e0] at x0
            generalize putsOf A0 cnPS vs = B at x0 hK ⊢
            go_simp
            exact hK.out _ _ _ rfl hG (Below.refl _ _) ⟨b,rfl,mapOf h0 (maps0_at _)⟩
           refine PutSteps.at rfl (fun vs Y hG hdep K hK => ?_) ?_
           ·obtain ⟨b,e0,h0⟩:=(hdep 27 rfl (by kernel_rfl):(mMap1 1 ⟨[(⟨#[114]⟩,List.replicate 9 ⟨#[]⟩)],[]⟩).p (vs 27) Y)
            have x0:=putsOf_get (vs:=vs) (ps:=cnPS) (a:=A0) 268 27 (by kernel_rfl) hsz (by kernel_rfl)
            rw [e0] at x0
            generalize putsOf A0 cnPS vs = B at x0 hK ⊢
            go_simp
            exact hK.out _ _ _ rfl hG (Below.refl _ _) ⟨b,rfl,h0⟩
           refine PutSteps.at rfl (fun vs Y hG hdep K hK => ?_) ?_
           ·have x0:=putsOf_old (vs:=vs) (s:=19) cnPS A0 (by kernel_rfl)
            rw [x19] at x0
            generalize putsOf A0 cnPS vs = B at x0 hK ⊢
            go_simp
            exact hK.out _ _ _ rfl hG (Below.refl _ _) rfl
           refine PutSteps.at rfl (fun vs Y hG hdep K hK => ?_) ?_
           ·generalize putsOf A0 cnPS vs = B at  hK ⊢
            have hk:=blkAt_newC Y #[.string ⟨#[97]⟩] 9
            have hbY:Below Y.heap.size Y (Y.alloc (.cells #[.string ⟨#[97]⟩] 9)):=bel_alloc (Below.refl _ _) _
            go_simp
            exact hK.out _ _ _ rfl (bel_alloc hG _) hbY ⟨Y.heap.size,rfl,strs1_at hk (by decide)⟩
           refine PutSteps.at rfl (fun vs Y hG hdep K hK => ?_) ?_
           ·generalize putsOf A0 cnPS vs = B at  hK ⊢
            have hk:=blkAt_newC Y #[.string ⟨#[114]⟩] 9
            have hbY:Below Y.heap.size Y (Y.alloc (.cells #[.string ⟨#[114]⟩] 9)):=bel_alloc (Below.refl _ _) _
            go_simp
            exact hK.out _ _ _ rfl (bel_alloc hG _) hbY ⟨Y.heap.size,rfl,strs1_at hk (by decide)⟩
           refine PutSteps.at rfl (fun vs Y hG hdep K hK => ?_) ?_
           ·obtain ⟨b,e0,h0⟩:=(hdep 30 rfl (by kernel_rfl):(mStrs 1 [⟨#[97]⟩]).p (vs 30) Y)
            have x0:=putsOf_get (vs:=vs) (ps:=cnPS) (a:=A0) 271 30 (by kernel_rfl) hsz (by kernel_rfl)
            rw [e0] at x0
            obtain ⟨c,e1,h1⟩:=(hdep 31 rfl (by kernel_rfl):(mStrs 1 [⟨#[114]⟩]).p (vs 31) Y)
            have x1:=putsOf_get (vs:=vs) (ps:=cnPS) (a:=A0) 272 31 (by kernel_rfl) hsz (by kernel_rfl)
            rw [e1] at x1
            generalize putsOf A0 cnPS vs = B at x0 x1 hK ⊢
            go_simp
            exact hK.out _ _ _ rfl hG (Below.refl _ _) ⟨b,c,rfl,mapgOf h0 h1 cap_self (by decide)⟩
           refine PutSteps.at rfl (fun vs Y hG hdep K hK => ?_) ?_
           ·obtain ⟨b,c,e0,h0⟩:=(hdep 32 rfl (by kernel_rfl):(mMapg 1 1 1 ⟨[⟨#[97]⟩],[⟨#[114]⟩],false,1⟩).p (vs 32) Y)
            have x0:=putsOf_get (vs:=vs) (ps:=cnPS) (a:=A0) 273 32 (by kernel_rfl) hsz (by kernel_rfl)
            rw [e0] at x0
            generalize putsOf A0 cnPS vs = B at x0 hK ⊢
            have hk:=blkAt_newC Y #[.slice (some ⟨b,0,none⟩) 1 1,.slice (some ⟨c,0,none⟩) 1 1,.bool false,.int .i64 1] 50
            have hbY:Below Y.heap.size Y (Y.alloc (.cells #[.slice (some ⟨b,0,none⟩) 1 1,.slice (some ⟨c,0,none⟩) 1 1,.bool false,.int .i64 1] 50)):=bel_alloc (Below.refl _ _) _
            go_simp
            exact hK.out _ _ _ rfl (bel_alloc hG _) hbY ⟨Y.heap.size,rfl,maps1_at (x:=⟨[⟨#[97]⟩],[⟨#[114]⟩],false,1⟩) hk (h0.keep hbY)⟩
           refine PutSteps.at rfl (fun vs Y hG hdep K hK => ?_) ?_
           ·have e0:vs 29 = (.slice (some ⟨g,0,none⟩) 1 1):=hdep 29 rfl (by kernel_rfl)
            have x0:=putsOf_get (vs:=vs) (ps:=cnPS) (a:=A0) 270 29 (by kernel_rfl) hsz (by kernel_rfl)
            rw [e0] at x0
            obtain ⟨b,e1,h1⟩:=(hdep 33 rfl (by kernel_rfl):(mMaps 1 [⟨[⟨#[97]⟩],[⟨#[114]⟩],false,1⟩]).p (vs 33) Y)
            have x1:=putsOf_get (vs:=vs) (ps:=cnPS) (a:=A0) 274 33 (by kernel_rfl) hsz (by kernel_rfl)
            rw [e1] at x1
            generalize putsOf A0 cnPS vs = B at x0 x1 hK ⊢
            go_simp
            exact hK.out _ _ _ rfl hG (Below.refl _ _) ⟨b,rfl,mapOf (HG1.out _ hG) h1⟩
           refine PutSteps.at rfl (fun vs Y hG hdep K hK => ?_) ?_
           ·obtain ⟨b,e0,h0⟩:=(hdep 34 rfl (by kernel_rfl):(mMap2 g 1 ⟨[(⟨#[114]⟩,[])],[⟨[⟨#[97]⟩],[⟨#[114]⟩],false,1⟩]⟩).p (vs 34) Y)
            have x0:=putsOf_get (vs:=vs) (ps:=cnPS) (a:=A0) 275 34 (by kernel_rfl) hsz (by kernel_rfl)
            rw [e0] at x0
            generalize putsOf A0 cnPS vs = B at x0 hK ⊢
            go_simp
            exact hK.out _ _ _ rfl hG (Below.refl _ _) ⟨b,rfl,h0⟩
           refine PutSteps.at rfl (fun vs Y hG hdep K hK => ?_) ?_
           ·have x0:=putsOf_old (vs:=vs) (s:=19) cnPS A0 (by kernel_rfl)
            rw [x19] at x0
            generalize putsOf A0 cnPS vs = B at x0 hK ⊢
            go_simp
            exact hK.out _ _ _ rfl hG (Below.refl _ _) rfl
           refine PutSteps.at rfl (fun vs Y hG hdep K hK => ?_) ?_
           ·generalize putsOf A0 cnPS vs = B at  hK ⊢
            have hk:=blkAt_newC Y #[.string ⟨#[97]⟩] 9
            have hbY:Below Y.heap.size Y (Y.alloc (.cells #[.string ⟨#[97]⟩] 9)):=bel_alloc (Below.refl _ _) _
            go_simp
            exact hK.out _ _ _ rfl (bel_alloc hG _) hbY ⟨Y.heap.size,rfl,strs1_at hk (by decide)⟩
           refine PutSteps.at rfl (fun vs Y hG hdep K hK => ?_) ?_
           ·generalize putsOf A0 cnPS vs = B at  hK ⊢
            have hk:=blkAt_newC Y #[.string ⟨#[114]⟩] 9
            have hbY:Below Y.heap.size Y (Y.alloc (.cells #[.string ⟨#[114]⟩] 9)):=bel_alloc (Below.refl _ _) _
            go_simp
            exact hK.out _ _ _ rfl (bel_alloc hG _) hbY ⟨Y.heap.size,rfl,strs1_at hk (by decide)⟩
           refine PutSteps.at rfl (fun vs Y hG hdep K hK => ?_) ?_
           ·obtain ⟨b,e0,h0⟩:=(hdep 37 rfl (by kernel_rfl):(mStrs 1 [⟨#[97]⟩]).p (vs 37) Y)
            have x0:=putsOf_get (vs:=vs) (ps:=cnPS) (a:=A0) 278 37 (by kernel_rfl) hsz (by kernel_rfl)
            rw [e0] at x0
            obtain ⟨c,e1,h1⟩:=(hdep 38 rfl (by kernel_rfl):(mStrs 1 [⟨#[114]⟩]).p (vs 38) Y)
            have x1:=putsOf_get (vs:=vs) (ps:=cnPS) (a:=A0) 279 38 (by kernel_rfl) hsz (by kernel_rfl)
            rw [e1] at x1
            generalize putsOf A0 cnPS vs = B at x0 x1 hK ⊢
            go_simp
            exact hK.out _ _ _ rfl hG (Below.refl _ _) ⟨b,c,rfl,mapgOf h0 h1 cap_self (by decide)⟩
           refine PutSteps.at rfl (fun vs Y hG hdep K hK => ?_) ?_
           ·obtain ⟨b,c,e0,h0⟩:=(hdep 39 rfl (by kernel_rfl):(mMapg 1 1 2 ⟨[⟨#[97]⟩],[⟨#[114]⟩],false,2⟩).p (vs 39) Y)
            have x0:=putsOf_get (vs:=vs) (ps:=cnPS) (a:=A0) 280 39 (by kernel_rfl) hsz (by kernel_rfl)
            rw [e0] at x0
            generalize putsOf A0 cnPS vs = B at x0 hK ⊢
            have hk:=blkAt_newC Y #[.slice (some ⟨b,0,none⟩) 1 1,.slice (some ⟨c,0,none⟩) 1 1,.bool false,.int .i64 2] 50
            have hbY:Below Y.heap.size Y (Y.alloc (.cells #[.slice (some ⟨b,0,none⟩) 1 1,.slice (some ⟨c,0,none⟩) 1 1,.bool false,.int .i64 2] 50)):=bel_alloc (Below.refl _ _) _
            go_simp
            exact hK.out _ _ _ rfl (bel_alloc hG _) hbY ⟨Y.heap.size,rfl,maps1_at (x:=⟨[⟨#[97]⟩],[⟨#[114]⟩],false,2⟩) hk (h0.keep hbY)⟩
           refine PutSteps.at rfl (fun vs Y hG hdep K hK => ?_) ?_
           ·have e0:vs 36 = (.slice (some ⟨g,0,none⟩) 1 1):=hdep 36 rfl (by kernel_rfl)
            have x0:=putsOf_get (vs:=vs) (ps:=cnPS) (a:=A0) 277 36 (by kernel_rfl) hsz (by kernel_rfl)
            rw [e0] at x0
            obtain ⟨b,e1,h1⟩:=(hdep 40 rfl (by kernel_rfl):(mMaps 1 [⟨[⟨#[97]⟩],[⟨#[114]⟩],false,2⟩]).p (vs 40) Y)
            have x1:=putsOf_get (vs:=vs) (ps:=cnPS) (a:=A0) 281 40 (by kernel_rfl) hsz (by kernel_rfl)
            rw [e1] at x1
            generalize putsOf A0 cnPS vs = B at x0 x1 hK ⊢
            go_simp
            exact hK.out _ _ _ rfl hG (Below.refl _ _) ⟨b,rfl,mapOf (HG1.out _ hG) h1⟩
           refine PutSteps.at rfl (fun vs Y hG hdep K hK => ?_) ?_
           ·obtain ⟨b,e0,h0⟩:=(hdep 41 rfl (by kernel_rfl):(mMap2 g 1 ⟨[(⟨#[114]⟩,[])],[⟨[⟨#[97]⟩],[⟨#[114]⟩],false,2⟩]⟩).p (vs 41) Y)
            have x0:=putsOf_get (vs:=vs) (ps:=cnPS) (a:=A0) 282 41 (by kernel_rfl) hsz (by kernel_rfl)
            rw [e0] at x0
            generalize putsOf A0 cnPS vs = B at x0 hK ⊢
            go_simp
            exact hK.out _ _ _ rfl hG (Below.refl _ _) ⟨b,rfl,h0⟩
           refine PutSteps.at rfl (fun vs Y hG hdep K hK => ?_) ?_
           ·have x0:=putsOf_old (vs:=vs) (s:=19) cnPS A0 (by kernel_rfl)
            rw [x19] at x0
            generalize putsOf A0 cnPS vs = B at x0 hK ⊢
            go_simp
            exact hK.out _ _ _ rfl hG (Below.refl _ _) rfl
           refine PutSteps.at rfl (fun vs Y hG hdep K hK => ?_) ?_
           ·generalize putsOf A0 cnPS vs = B at  hK ⊢
            have hk:=blkAt_newC Y #[.string ⟨#[97]⟩] 9
            have hbY:Below Y.heap.size Y (Y.alloc (.cells #[.string ⟨#[97]⟩] 9)):=bel_alloc (Below.refl _ _) _
            go_simp
            exact hK.out _ _ _ rfl (bel_alloc hG _) hbY ⟨Y.heap.size,rfl,strs1_at hk (by decide)⟩
           refine PutSteps.at rfl (fun vs Y hG hdep K hK => ?_) ?_
           ·generalize putsOf A0 cnPS vs = B at  hK ⊢
            have hk:=blkAt_newC Y #[.string ⟨#[115]⟩] 9
            have hbY:Below Y.heap.size Y (Y.alloc (.cells #[.string ⟨#[115]⟩] 9)):=bel_alloc (Below.refl _ _) _
            go_simp
            exact hK.out _ _ _ rfl (bel_alloc hG _) hbY ⟨Y.heap.size,rfl,strs1_at hk (by decide)⟩
           refine PutSteps.at rfl (fun vs Y hG hdep K hK => ?_) ?_
           ·obtain ⟨b,e0,h0⟩:=(hdep 44 rfl (by kernel_rfl):(mStrs 1 [⟨#[97]⟩]).p (vs 44) Y)
            have x0:=putsOf_get (vs:=vs) (ps:=cnPS) (a:=A0) 285 44 (by kernel_rfl) hsz (by kernel_rfl)
            rw [e0] at x0
            obtain ⟨c,e1,h1⟩:=(hdep 45 rfl (by kernel_rfl):(mStrs 1 [⟨#[115]⟩]).p (vs 45) Y)
            have x1:=putsOf_get (vs:=vs) (ps:=cnPS) (a:=A0) 286 45 (by kernel_rfl) hsz (by kernel_rfl)
            rw [e1] at x1
            generalize putsOf A0 cnPS vs = B at x0 x1 hK ⊢
            go_simp
            exact hK.out _ _ _ rfl hG (Below.refl _ _) ⟨b,c,rfl,mapgOf h0 h1 cap_self (by decide)⟩
           refine PutSteps.at rfl (fun vs Y hG hdep K hK => ?_) ?_
           ·obtain ⟨b,c,e0,h0⟩:=(hdep 46 rfl (by kernel_rfl):(mMapg 1 1 1 ⟨[⟨#[97]⟩],[⟨#[115]⟩],false,1⟩).p (vs 46) Y)
            have x0:=putsOf_get (vs:=vs) (ps:=cnPS) (a:=A0) 287 46 (by kernel_rfl) hsz (by kernel_rfl)
            rw [e0] at x0
            generalize putsOf A0 cnPS vs = B at x0 hK ⊢
            have hk:=blkAt_newC Y #[.slice (some ⟨b,0,none⟩) 1 1,.slice (some ⟨c,0,none⟩) 1 1,.bool false,.int .i64 1] 50
            have hbY:Below Y.heap.size Y (Y.alloc (.cells #[.slice (some ⟨b,0,none⟩) 1 1,.slice (some ⟨c,0,none⟩) 1 1,.bool false,.int .i64 1] 50)):=bel_alloc (Below.refl _ _) _
            go_simp
            exact hK.out _ _ _ rfl (bel_alloc hG _) hbY ⟨Y.heap.size,rfl,maps1_at (x:=⟨[⟨#[97]⟩],[⟨#[115]⟩],false,1⟩) hk (h0.keep hbY)⟩
           refine PutSteps.at rfl (fun vs Y hG hdep K hK => ?_) ?_
           ·have e0:vs 43 = (.slice (some ⟨g,0,none⟩) 1 1):=hdep 43 rfl (by kernel_rfl)
            have x0:=putsOf_get (vs:=vs) (ps:=cnPS) (a:=A0) 284 43 (by kernel_rfl) hsz (by kernel_rfl)
            rw [e0] at x0
            obtain ⟨b,e1,h1⟩:=(hdep 47 rfl (by kernel_rfl):(mMaps 1 [⟨[⟨#[97]⟩],[⟨#[115]⟩],false,1⟩]).p (vs 47) Y)
            have x1:=putsOf_get (vs:=vs) (ps:=cnPS) (a:=A0) 288 47 (by kernel_rfl) hsz (by kernel_rfl)
            rw [e1] at x1
            generalize putsOf A0 cnPS vs = B at x0 x1 hK ⊢
            go_simp
            exact hK.out _ _ _ rfl hG (Below.refl _ _) ⟨b,rfl,mapOf (HG1.out _ hG) h1⟩
           refine PutSteps.at rfl (fun vs Y hG hdep K hK => ?_) ?_
           ·obtain ⟨b,e0,h0⟩:=(hdep 48 rfl (by kernel_rfl):(mMap2 g 1 ⟨[(⟨#[114]⟩,[])],[⟨[⟨#[97]⟩],[⟨#[115]⟩],false,1⟩]⟩).p (vs 48) Y)
            have x0:=putsOf_get (vs:=vs) (ps:=cnPS) (a:=A0) 289 48 (by kernel_rfl) hsz (by kernel_rfl)
            rw [e0] at x0
            generalize putsOf A0 cnPS vs = B at x0 hK ⊢
            go_simp
            exact hK.out _ _ _ rfl hG (Below.refl _ _) ⟨b,rfl,h0⟩
           refine PutSteps.at rfl (fun vs Y hG hdep K hK => ?_) ?_
           ·have x0:=putsOf_old (vs:=vs) (s:=19) cnPS A0 (by kernel_rfl)
            rw [x19] at x0
            generalize putsOf A0 cnPS vs = B at x0 hK ⊢
            go_simp
            exact hK.out _ _ _ rfl hG (Below.refl _ _) rfl
           refine PutSteps.at rfl (fun vs Y hG hdep K hK => ?_) ?_
           ·generalize putsOf A0 cnPS vs = B at  hK ⊢
            have hk:=blkAt_newC Y #[.string ⟨#[114]⟩] 9
            have hbY:Below Y.heap.size Y (Y.alloc (.cells #[.string ⟨#[114]⟩] 9)):=bel_alloc (Below.refl _ _) _
            go_simp
            exact hK.out _ _ _ rfl (bel_alloc hG _) hbY ⟨Y.heap.size,rfl,strs1_at hk (by decide)⟩
           refine PutSteps.at rfl (fun vs Y hG hdep K hK => ?_) ?_
           ·obtain ⟨c,e0,h0⟩:=(hdep 51 rfl (by kernel_rfl):(mStrs 1 [⟨#[114]⟩]).p (vs 51) Y)
            have x0:=putsOf_get (vs:=vs) (ps:=cnPS) (a:=A0) 292 51 (by kernel_rfl) hsz (by kernel_rfl)
            rw [e0] at x0
            generalize putsOf A0 cnPS vs = B at x0 hK ⊢
            go_simp
            exact hK.out _ _ _ rfl hG (Below.refl _ _) ⟨c,rfl,mapgOf (strsAt_nil _) h0 cap_self (by decide)⟩
           refine PutSteps.at rfl (fun vs Y hG hdep K hK => ?_) ?_
           ·obtain ⟨c,e0,h0⟩:=(hdep 52 rfl (by kernel_rfl):(mMapg0 1 1 ⟨[],[⟨#[114]⟩],false,1⟩).p (vs 52) Y)
            have x0:=putsOf_get (vs:=vs) (ps:=cnPS) (a:=A0) 293 52 (by kernel_rfl) hsz (by kernel_rfl)
            rw [e0] at x0
            generalize putsOf A0 cnPS vs = B at x0 hK ⊢
            have hk:=blkAt_newC Y #[.slice none 0 0,.slice (some ⟨c,0,none⟩) 1 1,.bool false,.int .i64 1] 50
            have hbY:Below Y.heap.size Y (Y.alloc (.cells #[.slice none 0 0,.slice (some ⟨c,0,none⟩) 1 1,.bool false,.int .i64 1] 50)):=bel_alloc (Below.refl _ _) _
            go_simp
            exact hK.out _ _ _ rfl (bel_alloc hG _) hbY ⟨Y.heap.size,rfl,maps1_at (x:=⟨[],[⟨#[114]⟩],false,1⟩) hk (h0.keep hbY)⟩
           refine PutSteps.at rfl (fun vs Y hG hdep K hK => ?_) ?_
           ·have e0:vs 50 = (.slice (some ⟨g,0,none⟩) 1 1):=hdep 50 rfl (by kernel_rfl)
            have x0:=putsOf_get (vs:=vs) (ps:=cnPS) (a:=A0) 291 50 (by kernel_rfl) hsz (by kernel_rfl)
            rw [e0] at x0
            obtain ⟨b,e1,h1⟩:=(hdep 53 rfl (by kernel_rfl):(mMaps 1 [⟨[],[⟨#[114]⟩],false,1⟩]).p (vs 53) Y)
            have x1:=putsOf_get (vs:=vs) (ps:=cnPS) (a:=A0) 294 53 (by kernel_rfl) hsz (by kernel_rfl)
            rw [e1] at x1
            generalize putsOf A0 cnPS vs = B at x0 x1 hK ⊢
            go_simp
            exact hK.out _ _ _ rfl hG (Below.refl _ _) ⟨b,rfl,mapOf (HG1.out _ hG) h1⟩
           refine PutSteps.at rfl (fun vs Y hG hdep K hK => ?_) ?_
           ·obtain ⟨b,e0,h0⟩:=(hdep 54 rfl (by kernel_rfl):(mMap2 g 1 ⟨[(⟨#[114]⟩,[])],[⟨[],[⟨#[114]⟩],false,1⟩]⟩).p (vs 54) Y)
            have x0:=putsOf_get (vs:=vs) (ps:=cnPS) (a:=A0) 295 54 (by kernel_rfl) hsz (by kernel_rfl)
            rw [e0] at x0
            generalize putsOf A0 cnPS vs = B at x0 hK ⊢
            go_simp
            exact hK.out _ _ _ rfl hG (Below.refl _ _) ⟨b,rfl,h0⟩
           refine PutSteps.at rfl (fun vs Y hG hdep K hK => ?_) ?_
           ·have x0:=putsOf_old (vs:=vs) (s:=19) cnPS A0 (by kernel_rfl)
            rw [x19] at x0
            generalize putsOf A0 cnPS vs = B at x0 hK ⊢
            go_simp
            exact hK.out _ _ _ rfl hG (Below.refl _ _) rfl
           refine PutSteps.at rfl (fun vs Y hG hdep K hK => ?_) ?_
           ·generalize putsOf A0 cnPS vs = B at  hK ⊢
            have hrun:=HMK2.out Y
            have hk:=blkAt_newC Y (madeCells z50.cells 68) 50
            have hbY:Below Y.heap.size Y (Y.alloc (.cells (madeCells z50.cells 68) 50)):=bel_alloc (Below.refl _ _) _
            go_simp
            exact hK.out _ _ _ rfl (bel_alloc hG _) hbY ⟨Y.heap.size,rfl,seventeens_at hk⟩
           refine PutSteps.at rfl (fun vs Y hG hdep K hK => ?_) ?_
           ·have e0:vs 56 = (.slice (some ⟨g,0,none⟩) 1 1):=hdep 56 rfl (by kernel_rfl)
            have x0:=putsOf_get (vs:=vs) (ps:=cnPS) (a:=A0) 297 56 (by kernel_rfl) hsz (by kernel_rfl)
            rw [e0] at x0
            obtain ⟨b,e1,h1⟩:=(hdep 57 rfl (by kernel_rfl):(mMaps 17 (List.replicate 17 ⟨[],[],false,0⟩)).p (vs 57) Y)
            have x1:=putsOf_get (vs:=vs) (ps:=cnPS) (a:=A0) 298 57 (by kernel_rfl) hsz (by kernel_rfl)
            rw [e1] at x1
            generalize putsOf A0 cnPS vs = B at x0 x1 hK ⊢
            go_simp
            exact hK.out _ _ _ rfl hG (Below.refl _ _) ⟨b,rfl,mapOf (HG1.out _ hG) h1⟩
           refine PutSteps.at rfl (fun vs Y hG hdep K hK => ?_) PutSteps.nil
           ·obtain ⟨b,e0,h0⟩:=(hdep 58 rfl (by kernel_rfl):(mMap2 g 17 ⟨[(⟨#[114]⟩,[])],List.replicate 17 ⟨[],[],false,0⟩⟩).p (vs 58) Y)
            have x0:=putsOf_get (vs:=vs) (ps:=cnPS) (a:=A0) 299 58 (by kernel_rfl) hsz (by kernel_rfl)
            rw [e0] at x0
            generalize putsOf A0 cnPS vs = B at x0 hK ⊢
            go_simp
            exact hK.out _ _ _ rfl hG (Below.refl _ _) ⟨b,rfl,h0⟩
          ·intro vs Y hG hdep
           have e0:vs 2 = (.agg #[.slice (some ⟨g,0,none⟩) 1 1,.slice none 0 0,.bool true]):=hdep 2 rfl
           have e1:vs 4 = (.agg #[.slice none 0 0,.slice none 0 0,.bool false]):=hdep 4 rfl
           obtain ⟨b2,e2,h2⟩:=(hdep 9 rfl:(mX1 2 ⟨[(⟨#[115]⟩,[]),(⟨#[114]⟩,[])],[]⟩ false).p (vs 9) Y)
           obtain ⟨b3,e3,h3⟩:=(hdep 14 rfl:(mX1 2 ⟨[(⟨#[114]⟩,[]),(⟨#[114]⟩,[])],[]⟩ false).p (vs 14) Y)
           obtain ⟨b4,e4,h4⟩:=(hdep 18 rfl:(mX1 1 ⟨[(⟨#[46,114]⟩,[])],[]⟩ false).p (vs 18) Y)
           obtain ⟨b5,e5,h5⟩:=(hdep 23 rfl:(mX1 1 ⟨[(⟨#[114]⟩,[⟨#[255]⟩])],[]⟩ false).p (vs 23) Y)
           obtain ⟨b6,e6,h6⟩:=(hdep 28 rfl:(mX1 1 ⟨[(⟨#[114]⟩,List.replicate 9 ⟨#[]⟩)],[]⟩ false).p (vs 28) Y)
           obtain ⟨b7,e7,h7⟩:=(hdep 35 rfl:(mX2 g 1 ⟨[(⟨#[114]⟩,[])],[⟨[⟨#[97]⟩],[⟨#[114]⟩],false,1⟩]⟩ true).p (vs 35) Y)
           obtain ⟨b8,e8,h8⟩:=(hdep 42 rfl:(mX2 g 1 ⟨[(⟨#[114]⟩,[])],[⟨[⟨#[97]⟩],[⟨#[114]⟩],false,2⟩]⟩ false).p (vs 42) Y)
           obtain ⟨b9,e9,h9⟩:=(hdep 49 rfl:(mX2 g 1 ⟨[(⟨#[114]⟩,[])],[⟨[⟨#[97]⟩],[⟨#[115]⟩],false,1⟩]⟩ false).p (vs 49) Y)
           obtain ⟨b10,e10,h10⟩:=(hdep 55 rfl:(mX2 g 1 ⟨[(⟨#[114]⟩,[])],[⟨[],[⟨#[114]⟩],false,1⟩]⟩ false).p (vs 55) Y)
           obtain ⟨b11,e11,h11⟩:=(hdep 59 rfl:(mX2 g 17 ⟨[(⟨#[114]⟩,[])],List.replicate 17 ⟨[],[],false,0⟩⟩ false).p (vs 59) Y)
           obtain ⟨cs,hcs⟩:∃ cs:Array Value,#[.slice (some ⟨g,0,none⟩) 1 1,.slice none 0 0,.bool true,.slice none 0 0,.slice none 0 0,.bool false,.slice (some ⟨b2,0,none⟩) 2 2,.slice none 0 0,.bool false,.slice (some ⟨b3,0,none⟩) 2 2,.slice none 0 0,.bool false,.slice (some ⟨b4,0,none⟩) 1 1,.slice none 0 0,.bool false,.slice (some ⟨b5,0,none⟩) 1 1,.slice none 0 0,.bool false,.slice (some ⟨b6,0,none⟩) 1 1,.slice none 0 0,.bool false,.slice (some ⟨g,0,none⟩) 1 1,.slice (some ⟨b7,0,none⟩) 1 1,.bool true,.slice (some ⟨g,0,none⟩) 1 1,.slice (some ⟨b8,0,none⟩) 1 1,.bool false,.slice (some ⟨g,0,none⟩) 1 1,.slice (some ⟨b9,0,none⟩) 1 1,.bool false,.slice (some ⟨g,0,none⟩) 1 1,.slice (some ⟨b10,0,none⟩) 1 1,.bool false,.slice (some ⟨g,0,none⟩) 1 1,.slice (some ⟨b11,0,none⟩) 17 17,.bool false] = cs:=⟨_,rfl⟩
           have hset:cs.setIfInBounds 35 (.bool false) = cs:=by rw [← hcs]; rfl
           have hbY:Below Y.heap.size Y (Y.alloc (.cells cs 48)):=bel_alloc (Below.refl _ _) _
           have hk:BlkAt (Y.alloc (.cells cs 48)) Y.heap.size 48 cs:=blkAt_newC _ _ _
           have HMA:Hid (∀ q,q < 12 → MayAt (Y.alloc (.cells cs 48)) Y.heap.size q):=by
            intro q hq
            match q,hq with
            | 0,_ => exact mayAt_of hk (by rw [← hcs]; rfl) (by rw [← hcs]; rfl) (by rw [← hcs]; rfl) (mapOf (HG1.out _ (below_more hG hbY)) (maps0_at _)) cm_0
            | 1,_ => exact mayAt_of hk (by rw [← hcs]; rfl) (by rw [← hcs]; rfl) (by rw [← hcs]; rfl) (mapOf ⟨by show 0 ≤ _; decide,none,0,rfl,fun i r hi => by simp at hi⟩ (maps0_at _)) cm_1
            | 2,_ => exact mayAt_of hk (by rw [← hcs]; rfl) (by rw [← hcs]; rfl) (by rw [← hcs]; rfl) (h2.keep hbY) cm_2
            | 3,_ => exact mayAt_of hk (by rw [← hcs]; rfl) (by rw [← hcs]; rfl) (by rw [← hcs]; rfl) (h3.keep hbY) cm_3
            | 4,_ => exact mayAt_of hk (by rw [← hcs]; rfl) (by rw [← hcs]; rfl) (by rw [← hcs]; rfl) (h4.keep hbY) cm_4
            | 5,_ => exact mayAt_of hk (by rw [← hcs]; rfl) (by rw [← hcs]; rfl) (by rw [← hcs]; rfl) (h5.keep hbY) cm_5
            | 6,_ => exact mayAt_of hk (by rw [← hcs]; rfl) (by rw [← hcs]; rfl) (by rw [← hcs]; rfl) (h6.keep hbY) cm_6
            | 7,_ => exact mayAt_of hk (by rw [← hcs]; rfl) (by rw [← hcs]; rfl) (by rw [← hcs]; rfl) (h7.keep hbY) cm_7
            | 8,_ => exact mayAt_of hk (by rw [← hcs]; rfl) (by rw [← hcs]; rfl) (by rw [← hcs]; rfl) (h8.keep hbY) cm_8
            | 9,_ => exact mayAt_of hk (by rw [← hcs]; rfl) (by rw [← hcs]; rfl) (by rw [← hcs]; rfl) (h9.keep hbY) cm_9
            | 10,_ => exact mayAt_of hk (by rw [← hcs]; rfl) (by rw [← hcs]; rfl) (by rw [← hcs]; rfl) (h10.keep hbY) cm_10
            | 11,_ => exact mayAt_of hk (by rw [← hcs]; rfl) (by rw [← hcs]; rfl) (by rw [← hcs]; rfl) (h11.keep hbY) cm_11
            | q + 12,h => omega
           have HB18:=Lib.hid (below_more HB17.out (bel_alloc hG (.cells cs 48)))
           clear h2 h3 h4 h5 h6 h7 h8 h9 h10 h11 hG hbY hk
           rw [hA0]
           simp only [cnPS,putsOf,List.foldl_cons,List.foldl_nil,Act.put,List.setIfInBounds_toArray,List.set_cons_zero,List.set_cons_succ]
           simp only [List.filterMap_cons,List.filterMap_nil,nthO]
           rw [e0,e1,e2,e3,e4,e5,e6,e7,e8,e9,e10,e11]
           refine wpList_plain rfl fun K hK => ?_
           go_simp
           refine hK _ _ ?_
           clear hK
           refine wpList_plain rfl fun K hK => ?_
           go_simp
           refine hK _ _ ?_
           clear hK
           refine wpList_nil ?_
           have HCS:=Lib.hid hcs
           clear hcs hset hdep e0 e1 e2 e3 e4 e5 e6 e7 e8 e9 e10 e11
           generalize Y.alloc (.cells cs 48) = w18 at HMA HB18 ⊢
           generalize Y.heap.size = bX at HMA ⊢
           go_wp2_with fail
           go_loopw [303] (fun i wr => ∃ q:Nat,q ≤ 12 ∧ i = .int .i64 q ∧ Hid (Below w18.heap.size w18 wr)) (fun i _ => 12 - (intOf i).toNat)
           case atStart => exact ⟨0,by omega,rfl,Below.refl _ _⟩
           case round =>
            obtain ⟨q,hq,rfl,HBq⟩:=hrel
            by_cases hq12:q < 12
            ·obtain ⟨a1,n1,c1,a2,n2,c2,m,M,k0,k1,k2,hM,hm⟩:=HMA.out q hq12
             have p0:=cell_keep HBq.out k0
             have p1:=cell_keep HBq.out k1
             have p2:=cell_keep HBq.out k2
             have i0':(0:Int) ≤ (q:Int):=by omega
             have i1':(q:Int) < 12:=by omega
             have HB19:Hid (Below w18.heap.size w18 (wr.alloc (.cells #[.slice a1 n1 c1,.slice a2 n2 c2,.bool m] 48))):=bel_alloc HBq.out _
             have HK19:Hid (BlkAt (wr.alloc (.cells #[.slice a1 n1 c1,.slice a2 n2 c2,.bool m] 48)) wr.heap.size 48 #[.slice a1 n1 c1,.slice a2 n2 c2,.bool m]):=blkAt_newC _ _ _
             have HM19:Hid (MapAt (wr.alloc (.cells #[.slice a1 n1 c1,.slice a2 n2 c2,.bool m] 48)) (.agg #[.slice a1 n1 c1,.slice a2 n2 c2]) M):=(hM.keep HBq.out).keep (bel_alloc (Below.refl _ _) _)
             have HMM:=Lib.hid hm
             clear k0 k1 k2 hM hm
             go_wp2_with fail
             generalize wr.alloc (.cells #[.slice a1 n1 c1,.slice a2 n2 c2,.bool m] 48) = w19 at HB19 HK19 HM19 ⊢
             generalize wr.heap.size = b19 at HK19 ⊢
             have q0:=HK19.out.cell 0
             have q1:=HK19.out.cell 1
             have q2:=HK19.out.cell 2
             have HMY:=Lib.hid (fun Y (hb:Below w19.heap.size w19 Y) => cMay_any M _ Y (HM19.out.keep hb))
             rw [HMM.out] at HMY
             clear HM19 HK19 p0 p1 p2
             refine wp_region_any (by kernel_rfl) ?_
             refine wpAny_name (fun A0 hA0 => ?_)
             have hsz:A0.tmps.size = 314:=by rw [hA0]; rfl
             have x21:A0.tmps[21]? = some (.pointer (some ⟨b19,0,none⟩)):=by rw [hA0]; rfl
             refine wpAny_puts cnPS36 5 [] (by kernel_rfl) (by kernel_rfl) (of_decide_eq_true (by kernel_rfl)) (fun w' => Below w19.heap.size w19 w') (fun k v _ => v = cnM b19 (.agg #[.slice a1 n1 c1,.slice a2 n2 c2]) m k) (fun _ _ _ _ h _ => h) (bel_drew (Below.refl _ _)) ?_ ?_
             ·refine PutSteps.at rfl (fun vs Y hG hdep K hK => ?_) ?_
              ·have x0:=putsOf_old (vs:=vs) (s:=21) cnPS36 A0 (by kernel_rfl)
               rw [x21] at x0
               generalize putsOf A0 cnPS36 vs = B at x0 hK ⊢
               go_simp
               exact hK.out _ _ _ rfl hG (Below.refl _ _) rfl
              refine PutSteps.at rfl (fun vs Y hG hdep K hK => ?_) ?_
              ·have e0:vs 0 = .pointer (some ⟨b19,0,none⟩):=hdep 0 rfl (by kernel_rfl)
               have x0:=putsOf_get (vs:=vs) (ps:=cnPS36) (a:=A0) 307 0 (by kernel_rfl) hsz (by kernel_rfl)
               rw [e0] at x0
               have y0:=cell_keep hG q0
               have y1:=cell_keep hG q1
               generalize putsOf A0 cnPS36 vs = B at x0 hK ⊢
               go_simp
               exact hK.out _ _ _ rfl hG (Below.refl _ _) rfl
              refine PutSteps.at rfl (fun vs Y hG hdep K hK => ?_) ?_
              ·have e0:vs 1 = .agg #[.slice a1 n1 c1,.slice a2 n2 c2]:=hdep 1 rfl (by kernel_rfl)
               have x0:=putsOf_get (vs:=vs) (ps:=cnPS36) (a:=A0) 308 1 (by kernel_rfl) hsz (by kernel_rfl)
               rw [e0] at x0
               generalize putsOf A0 cnPS36 vs = B at x0 hK ⊢
               go_simp
               refine (HMY.out _ hG).mono ?_
               rintro e w4 ⟨rfl,hb4⟩
               exact hK.out _ _ _ rfl (below_more hG hb4) hb4 rfl
              refine PutSteps.at rfl (fun vs Y hG hdep K hK => ?_) ?_
              ·have x0:=putsOf_old (vs:=vs) (s:=21) cnPS36 A0 (by kernel_rfl)
               rw [x21] at x0
               generalize putsOf A0 cnPS36 vs = B at x0 hK ⊢
               go_simp
               exact hK.out _ _ _ rfl hG (Below.refl _ _) rfl
              refine PutSteps.at rfl (fun vs Y hG hdep K hK => ?_) PutSteps.nil
              ·have e0:vs 3 = .pointer (some ⟨b19,2,none⟩):=hdep 3 rfl (by kernel_rfl)
               have x0:=putsOf_get (vs:=vs) (ps:=cnPS36) (a:=A0) 310 3 (by kernel_rfl) hsz (by kernel_rfl)
               rw [e0] at x0
               have y2:=cell_keep hG q2
               generalize putsOf A0 cnPS36 vs = B at x0 hK ⊢
               go_simp
               exact hK.out _ _ _ rfl hG (Below.refl _ _) rfl
             ·intro vs Y hG hdep
              have e2:vs 2 = .bool m:=hdep 2 rfl
              have e4:vs 4 = .bool m:=hdep 4 rfl
              have HB20:=Lib.hid (below_more HB19.out hG)
              rw [hA0]
              clear hA0 hdep hG q0 q1 q2
              simp only [cnPS36,putsOf,List.foldl_cons,List.foldl_nil,Act.put,List.setIfInBounds_toArray,List.set_cons_zero,List.set_cons_succ]
              simp only [List.filterMap_cons,List.filterMap_nil,nthO]
              rw [e2,e4]
              refine wpList_plain rfl fun K hK => ?_
              go_simp
              refine hK _ _ ?_
              clear hK
              refine wpList_nil ?_
              go_wp2_with fail
              exact ⟨⟨q + 1,by omega,by go_num,HB20⟩,by simp [intOf]; omega⟩
            ·have i1':¬ (q:Int) < 12:=by omega
             have HBZ:=Lib.hid (below_more HB18.out HBq.out)
             go_wp2_with fail
             go_ret
             exact ⟨rfl,HBZ.out⟩
end Go.Proofs.YtkphgjkflhjfjaaGreatDoor
