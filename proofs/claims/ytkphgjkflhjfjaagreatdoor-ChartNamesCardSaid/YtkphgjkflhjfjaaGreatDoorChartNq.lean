/-
  The texts of ChartNames that are refused, plainly.
  The texts that ChartNames puts together, plainly.
-/
import Derived.Test.YtkphgjkflhjfjaaGreatDoorChartS
namespace Go.Proofs.YtkphgjkflhjfjaaGreatDoor
section
open Go.RowKit
theorem cn_0:chartT (⟨#[]⟩:ByteArray).data.toList = .bad 4:=by kernel_rfl
theorem cn_1:chartT (⟨#[91,93]⟩:ByteArray).data.toList = .bad 10:=by kernel_rfl
theorem cn_2:chartT (⟨#[123,125]⟩:ByteArray).data.toList = .bad 6:=by kernel_rfl
theorem cn_3:chartT (⟨#[123,34,109,97,112,112,105,110,103,34,58,49,44,34,114,101,112,111,115,105,116,111,114,105,101,115,34,58,123,125,125]⟩:ByteArray).data.toList = .bad 4:=by kernel_rfl
theorem cn_4:chartT (⟨#[123,34,109,97,112,112,105,110,103,34,58,49,44,34,114,101,112,111,115,105,116,111,114,105,101,115,34,58,91,93,125]⟩:ByteArray).data.toList = .bad 10:=by kernel_rfl
theorem cn_5:chartT (wholeT ⟨#[49]⟩ ⟨#[34,97,32,98,34,58,49]⟩).data.toList = .bad 3:=by rw [whole_list]; kernel_rfl
theorem cn_6:chartT (wholeT ⟨#[49]⟩ ⟨#[34,97,34,58,49]⟩).data.toList = .bad 10:=by rw [whole_list]; kernel_rfl
theorem cn_7:chartT (wholeT ⟨#[49]⟩ ⟨#[34,97,34,58,91,49,44,50,44,51,44,52,44,53,44,54,44,55,44,56,44,57,93]⟩).data.toList = .bad 5:=by rw [whole_list]; kernel_rfl
theorem cn_8:chartT (wholeT ⟨#[49]⟩ ⟨#[34,97,34,58,91,49,93]⟩).data.toList = .bad 10:=by rw [whole_list]; kernel_rfl
theorem cn_9:chartT (wholeT ⟨#[49]⟩ awRs).data.toList = .bad 10:=by rw [whole_list]; kernel_rfl
theorem cn_10:chartT (wholeT ⟨#[123,125]⟩ awRs).data.toList = .bad 6:=by rw [whole_list]; kernel_rfl
theorem cn_11:chartT (wholeT (mappingT ⟨#[]⟩ ⟨#[]⟩ ⟨#[48]⟩) awRs).data.toList = .bad 4:=by rw [whole_list,mapping_list]; kernel_rfl
theorem cn_12:chartT (wholeT (mappingT ⟨#[34,47,97,34]⟩ ⟨#[]⟩ ⟨#[48]⟩) awRs).data.toList = .bad 3:=by rw [whole_list,mapping_list]; kernel_rfl
theorem cn_13:chartT (wholeT (mappingT ⟨#[49]⟩ ⟨#[]⟩ ⟨#[48]⟩) awRs).data.toList = .bad 10:=by rw [whole_list,mapping_list]; kernel_rfl
theorem cn_14:chartT (wholeT (mappingT ⟨#[34,97,34]⟩ ⟨#[]⟩ ⟨#[48]⟩) awRs).data.toList = .bad 4:=by rw [whole_list,mapping_list]; kernel_rfl
theorem cn_15:chartT (wholeT (mappingT ⟨#[34,97,34]⟩ ⟨#[34,116,34,44,34,116,34]⟩ ⟨#[48]⟩) awRs).data.toList = .bad 6:=by rw [whole_list,mapping_list]; kernel_rfl
theorem cn_16:chartT (wholeT (mappingT ⟨#[34,97,34]⟩ ⟨#[34,114,34,44,34,114,34]⟩ ⟨#[48]⟩) awRs).data.toList = .bad 7:=by rw [whole_list,mapping_list]; kernel_rfl
theorem cn_17:chartT (wholeT (mappingT ⟨#[34,97,34]⟩ ⟨#[34,115,34,44,34,114,34]⟩ ⟨#[51]⟩) awRs).data.toList = .bad 1:=by rw [whole_list,mapping_list]; kernel_rfl
theorem cn_18:chartT (wholeT (mappingT ⟨#[34,97,34]⟩ ⟨#[34,115,34,44,34,114,34]⟩ ⟨#[48]⟩) awRs).data.toList = .bad 1:=by rw [whole_list,mapping_list]; kernel_rfl
theorem cn_19:chartT (wholeT (mappingT ⟨#[34,97,34]⟩ ⟨#[34,115,34,44,34,114,34]⟩ ⟨#[116,114,117,101]⟩) awRs).data.toList = .bad 10:=by rw [whole_list,mapping_list]; kernel_rfl
def cnG:MapgP:=⟨[⟨#[97,47,42]⟩],[⟨#[114]⟩],true,1⟩
theorem cm_0:mayM ⟨[(⟨#[114]⟩,[])],[]⟩ = true:=by kernel_rfl
theorem cm_1:mayM ⟨[],[]⟩ = false:=by kernel_rfl
theorem cm_2:mayM ⟨[(⟨#[115]⟩,[]),(⟨#[114]⟩,[])],[]⟩ = false:=by kernel_rfl
theorem cm_3:mayM ⟨[(⟨#[114]⟩,[]),(⟨#[114]⟩,[])],[]⟩ = false:=by kernel_rfl
theorem cm_4:mayM ⟨[(⟨#[46,114]⟩,[])],[]⟩ = false:=by kernel_rfl
theorem cm_5:mayM ⟨[(⟨#[114]⟩,[⟨#[255]⟩])],[]⟩ = false:=by kernel_rfl
theorem cm_6:mayM ⟨[(⟨#[114]⟩,List.replicate 9 ⟨#[]⟩)],[]⟩ = false:=by kernel_rfl
theorem cm_7:mayM ⟨[(⟨#[114]⟩,[])],[⟨[⟨#[97]⟩],[⟨#[114]⟩],false,1⟩]⟩ = true:=by kernel_rfl
theorem cm_8:mayM ⟨[(⟨#[114]⟩,[])],[⟨[⟨#[97]⟩],[⟨#[114]⟩],false,2⟩]⟩ = false:=by kernel_rfl
theorem cm_9:mayM ⟨[(⟨#[114]⟩,[])],[⟨[⟨#[97]⟩],[⟨#[115]⟩],false,1⟩]⟩ = false:=by kernel_rfl
theorem cm_10:mayM ⟨[(⟨#[114]⟩,[])],[⟨[],[⟨#[114]⟩],false,1⟩]⟩ = false:=by kernel_rfl
theorem cm_11:mayM ⟨[(⟨#[114]⟩,[])],List.replicate 17 ⟨[],[],false,0⟩⟩ = false:=by kernel_rfl
end

section
open Go.RowKit
def cnGood:ByteArray:=(mappingT ⟨#[34,97,47,42,34]⟩ ⟨#[34,114,34]⟩ ⟨#[49]⟩)
theorem extB (s:ByteArray) (a b:Nat):(s.extract a b).data.toList = (s.data.toList.drop a).take (b - a):=by
 rw [ByteArray.data_extract]; simp
theorem cq_20:chartT (wholeT ((cnGood ++ ⟨#[44]⟩) ++ mappingT ⟨#[34,97,34]⟩ ⟨#[34,120,34]⟩ ⟨#[49]⟩) awRs).data.toList = .bad 6:=by
 simp only [whole_list,cnGood,catB,mapping_list]; kernel_rfl
theorem cq_21:chartT (wholeT (cnGood.extract 0 70 ++ ⟨#[44,34,120,34,58,49,125]⟩) awRs).data.toList = .bad 11:=by
 simp only [whole_list,cnGood,catB,extB,mapping_list]; kernel_rfl
theorem cq_22:chartT (⟨#[123,34,97,34,58,49,44]⟩ ++ (wholeT cnGood awRs).extract 1 119).data.toList = .bad 11:=by
 simp only [catB,extB,whole_list,cnGood,mapping_list]; kernel_rfl
theorem cq_23:chartT ((⟨#[123,34,114,101,112,111,115,105,116,111,114,105,101,115,34,58,123]⟩ ++ awRs) ++ ⟨#[125,125]⟩).data.toList = .bad 6:=by
 simp only [catB]; kernel_rfl
theorem cq_24:chartT (wholeT cnGood awRs ++ ⟨#[49]⟩).data.toList = .bad 11:=by
 simp only [catB,whole_list,cnGood,mapping_list]; kernel_rfl
theorem cq_empty:chartT (wholeT ⟨#[]⟩ awRs).data.toList = .ok ⟨awRepos,[]⟩:=by
 rw [whole_list]; kernel_rfl
def manyT (G:ByteArray):Nat → ByteArray
 | 0 => G
 | k + 1 => (manyT G k ++ ⟨#[44]⟩) ++ G
def manyL (G:List UInt8):Nat → List UInt8
 | 0 => G
 | k + 1 => (manyL G k ++ [44]) ++ G
theorem many_list (G:ByteArray):∀ k,(manyT G k).data.toList = manyL G.data.toList k
 | 0 => rfl
 | k + 1 => by rw [manyT,manyL,catB,catB,many_list G k]
theorem many_size (G:ByteArray) (n:Nat) (h:G.size = n):∀ k,(manyT G k).size = n + k * (n + 1)
 | 0 => by rw [manyT,h]; omega
 | k + 1 => by
   rw [manyT,ByteArray.size_append,ByteArray.size_append,many_size G n h k,h,show ((⟨#[44]⟩:ByteArray)).size = 1 from rfl,Nat.add_mul]; omega
theorem cq_many:chartT (wholeT (manyT cnGood 15) awRs).data.toList = .ok ⟨awRepos,List.replicate 16 cnG⟩:=by
 rw [whole_list,many_list,cnGood,mapping_list]; kernel_rfl
theorem cq_many1:chartT (wholeT ((manyT cnGood 15 ++ ⟨#[44]⟩) ++ cnGood) awRs).data.toList = .bad 5:=by
 rw [whole_list,catB,catB,many_list,cnGood,mapping_list]; kernel_rfl
def reposT:Nat → ByteArray
 | 0 => ⟨#[34,97,34,58,91,93]⟩
 | k + 1 => ((reposT k ++ ⟨#[44,34]⟩) ++ ⟨#[UInt8.ofNat (97 + (k + 1))]⟩) ++ ⟨#[34,58,91,93]⟩
def reposL:Nat → List UInt8
 | 0 => [34,97,34,58,91,93]
 | k + 1 => ((reposL k ++ [44,34]) ++ [UInt8.ofNat (97 + (k + 1))]) ++ [34,58,91,93]
theorem repos_list:∀ k,(reposT k).data.toList = reposL k
 | 0 => rfl
 | k + 1 => by rw [reposT,reposL,catB,catB,catB,repos_list k]
theorem repos_size:∀ k,(reposT k).size = 6 + k * 7
 | 0 => rfl
 | k + 1 => by
   rw [reposT,ByteArray.size_append,ByteArray.size_append,ByteArray.size_append,repos_size k,show ((⟨#[44,34]⟩:ByteArray)).size = 2 from rfl,show ((⟨#[34,58,91,93]⟩:ByteArray)).size = 4 from rfl,show ((⟨#[UInt8.ofNat (97 + (k + 1))]⟩:ByteArray)).size = 1 from rfl,Nat.add_mul]; omega
theorem cq_repos:chartT (wholeT ⟨#[]⟩ (reposT 7)).data.toList = .ok ⟨(List.range 8).map fun i => (⟨#[UInt8.ofNat (97 + i)]⟩,[]),[]⟩:=by
 rw [whole_list,repos_list]; kernel_rfl
theorem cq_repos1:chartT (wholeT ⟨#[]⟩ (reposT 7 ++ ⟨#[44,34,122,34,58,91,93]⟩)).data.toList = .bad 5:=by
 rw [whole_list,catB,repos_list]; kernel_rfl
def pathsT:Nat → ByteArray
 | 0 => ⟨#[34,97,34]⟩
 | k + 1 => pathsT k ++ ⟨#[44,34,97,34]⟩
def pathsL:Nat → List UInt8
 | 0 => [34,97,34]
 | k + 1 => pathsL k ++ [44,34,97,34]
theorem paths_list:∀ k,(pathsT k).data.toList = pathsL k
 | 0 => rfl
 | k + 1 => by rw [pathsT,pathsL,catB,paths_list k]
theorem paths_size:∀ k,(pathsT k).size = 3 + k * 4
 | 0 => rfl
 | k + 1 => by
   rw [pathsT,ByteArray.size_append,paths_size k,show ((⟨#[44,34,97,34]⟩:ByteArray)).size = 4 from rfl,Nat.add_mul]; omega
theorem cq_paths:chartT (wholeT (mappingT (pathsT 31) ⟨#[34,114,34]⟩ ⟨#[49]⟩) awRs).data.toList = .ok ⟨awRepos,[⟨List.replicate 32 ⟨#[97]⟩,[⟨#[114]⟩],true,1⟩]⟩:=by
 rw [whole_list,mapping_list,paths_list]; kernel_rfl
theorem cq_paths1:chartT (wholeT (mappingT (pathsT 31 ++ ⟨#[44,34,97,34]⟩) ⟨#[34,114,34]⟩ ⟨#[49]⟩) awRs).data.toList = .bad 5:=by
 rw [whole_list,mapping_list,catB,paths_list]; kernel_rfl
end
end Go.Proofs.YtkphgjkflhjfjaaGreatDoor
