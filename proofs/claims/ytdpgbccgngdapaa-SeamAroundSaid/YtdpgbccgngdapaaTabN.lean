/- A table of a surface, by its corners' numbers: see the text that is imported. No condition. -/
import Derived.Test.YtdpgbccgngdapaaSmR
namespace Go.Proofs.Ytdpgbccgngdapaa
end Go.Proofs.Ytdpgbccgngdapaa
