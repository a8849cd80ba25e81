import Derived.Test.YtheboekhpelhlaaDSb14
namespace Go.Proofs.Ytheboekhpelhlaa
namespace Sha
